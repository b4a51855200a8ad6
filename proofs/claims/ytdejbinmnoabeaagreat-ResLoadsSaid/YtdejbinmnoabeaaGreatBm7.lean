/- Texts of this seat, put together: QuG, QuH, QuI. -/
import Derived.Test.YtdejbinmnoabeaaGreatBm6
namespace Go.Mine
set_option linter.unusedVariables false
set_option linter.unusedSimpArgs false
structure QS where
  its : List It
  ws : List (Int × KW)
  gv : Int
deriving DecidableEq
def QS.new : QS := ⟨[], [], 0⟩
def prepd (n : Int) (ws : List (Int × KW)) : Bool := ((aget n ws).map (·.p)).getD false
def listOfW (n : Int) (ws : List (Int × KW)) : List Ch := ((aget n ws).map (·.l)).getD []
def QS.fit (s : QS) (n : Int) : Int := if n < 1 then 1 else if prepd n s.ws then 7 else 0
def putsL : List Ch → Nat
  | [] => 0
  | c :: cs => (if c.kind == 3 then 1 else 0) + putsL cs
def putsW : List (Int × KW) → Nat
  | [] => 0
  | x :: xs => putsL x.2.l + putsW xs
theorem putsL_append (a b : List Ch) : putsL (a ++ b) = putsL a + putsL b := by
  induction a with
  | nil => simp [putsL]
  | cons x a ih => simp only [List.cons_append, putsL, ih]; omega
theorem putsW_append (a b : List (Int × KW)) : putsW (a ++ b) = putsW a + putsW b := by
  induction a with
  | nil => simp [putsW]
  | cons x a ih => simp only [List.cons_append, putsW, ih]; omega
theorem putsL_le (l : List Ch) : putsL l ≤ l.length := by
  induction l with
  | nil => simp [putsL]
  | cons x l ih => simp only [putsL, List.length_cons]; split <;> omega
theorem putsW_mem {ws : List (Int × KW)} {x : Int × KW} (h : x ∈ ws) : putsL x.2.l ≤ putsW ws := by
  induction ws with
  | nil => exact absurd h List.not_mem_nil
  | cons y ws ih =>
    simp only [putsW]
    rcases List.mem_cons.1 h with rfl | h
    · omega
    · have := ih h; omega
def QS.room (s : QS) : Int := min (16 - (s.its.length : Int) - putsW s.ws) (4611686018427387904 - (s.gv + 1) - putsW s.ws)
def noteW (n : Int) (c : Ch) (ws : List (Int × KW)) : List (Int × KW) := match aget n ws with | some v => aput n ⟨v.l ++ [c], v.p⟩ ws | none => ws ++ [(n, ⟨[c], false⟩)]
def QS.busy (s : QS) (n : Int) : Bool := (aget n s.ws).isSome
structure QS.Bd (s : QS) : Prop where
  keys : s.ws.Pairwise (fun x y => x.1 ≠ y.1)
  its : s.its.length ≤ 100
  ws : s.ws.length ≤ 1000
  ls : ∀ x ∈ s.ws, x.2.l.length ≤ 1000
  pw : putsW s.ws ≤ 1000000
  g0 : 0 ≤ s.gv
  gt : s.gv ≤ 4611686018427387904
end Go.Mine
namespace Go.Proofs.YtdejbinmnoabeaaGreat.Q
variable {Zz : QZ}
open Go.RowKit Go.Mine Go.Proofs.YtdejbinmnoabeaaGreatW.PrintWords
set_option linter.unusedVariables false
set_option linter.unusedSimpArgs false
def QAt (Zz : QZ) (F : Nat → Prop) (w : World) (b : Nat) (s : QS) : Prop := ∃ I iv qv, QR Zz eIt T0 F w b s.its I s.gv iv qv ∧ s.ws = wsOf I
theorem QAt.fb {F : Nat → Prop} {w : World} {b : Nat} {s : QS} (h : QAt Zz F w b s) : ∀ i, F i → i < w.heap.size := by
  obtain ⟨I, iv, qv, h1, h2⟩ := h
  exact h1.fb
theorem QAt.fr {F S : Nat → Prop} {w w' : World} {b : Nat} {s : QS} (h : QAt Zz F w b s) (hf : Fr S w w') (hS : ∀ i, F i → ¬ S i) : QAt Zz F w' b s := by
  obtain ⟨I, iv, qv, h1, h2⟩ := h
  exact ⟨I, iv, qv, h1.fr hf hS, h2⟩
theorem QAt.below {F : Nat → Prop} {w w' : World} {b : Nat} {s : QS} (h : QAt Zz F w b s) (hb : Below w.heap.size w w') : QAt Zz F w' b s := h.fr (Fr.of_below hb (Nat.le_refl _)) (fun _ _ q => q)
def findB (I : List WI) (n : Int) : Option Nat := (I.find? (fun x => decide (x.n = n))).map (·.wb)
abbrev ChAt (w : World) (B : Nat) (A : Option Addr) (l : List Ch) : Prop := RowAt encCh 3 w B A l
abbrev ChV (c : Ch) : Value := .agg #[.int .i64 c.kind, .int .i64 c.key, .int .u64 c.val]
set_option maxRecDepth 100000 in
set_option maxHeartbeats 2000000 in
theorem find_any {F : Nat → Prop} {w : World} {b : Nat} {L : List It} {I : List WI} {g : Int} {iv qv : Value} (h : QR Zz eIt T0 F w b L I g iv qv) (hn : I.length ≤ 1000000) (n : Int) :
    Calls Tryz.prog 77 #[.pointer (some ⟨b, 34, none⟩), .int .i64 n] w fun e w' => e = .returned (.pointer ((findB I n).map (fun b => ⟨b, 0, none⟩))) ∧ w = w' := by
  have hc : w.cell? ⟨b, 35, none⟩ = some qv := by rw [cell_of_row w b 35 _ _ _ h.blk]; exact qget1 _ _ _ _
  obtain ⟨A, c, rfl, hAc, hat⟩ := h.wp.at_
  have HAT := hid hat
  have H := hid h
  clear hat h
  go_enter Tryz.func77, Tryz.ntmps77
  go_wp2_with fail
  go_loopg [12] (I.length + 1) (fun m v wr => ∃ i : Nat, v = .int .i64 i ∧ i ≤ I.length ∧ m = I.length + 1 - i ∧ wr = w ∧ ∀ j x, j < i → I[j]? = some x → (x.n == n) = false)
  case atStart => exact ⟨0, rfl, Nat.zero_le _, rfl, rfl, fun j x hj => by omega⟩
  case round =>
    obtain ⟨i, rfl, hi, hm, hw, hno⟩ := hrel
    subst hw
    have HN := hid hm
    have HNO := hid hno
    clear hm hno
    by_cases h1 : i < I.length
    · obtain ⟨x, hx⟩ : ∃ x, I[i]? = some x := ⟨_, List.getElem?_eq_getElem h1⟩
      obtain ⟨b', off, rfl, hb, hcc⟩ := HAT.out i x hx
      have k0 : wr.cell? ⟨b', off + i, none⟩ = some (ptrV x.wb) := by have := hcc 0 _ rfl; simpa [eWI] using this
      have hwk := H.out.wk x (List.mem_of_getElem? hx)
      have k1 : wr.cell? ⟨x.wb, 0, none⟩ = some (.int .i64 x.n) := by rw [cell_of_row _ _ 0 _ _ _ hwk.2.1]; rfl
      have HX := hid hx
      clear hcc hx hwk
      cases q1 : (x.n == n)
      · go_wp2_with fail
        go_roundg (I.length + 1 - (i + 1))
        case measure => rw [HN.out]; omega
        case rel =>
          refine ⟨i + 1, by go_num, by omega, rfl, rfl, fun j y hj hy => ?_⟩
          rcases Nat.lt_succ_iff_lt_or_eq.1 hj with hj | rfl
          · exact HNO.out j y hj hy
          · rw [HX.out] at hy; cases hy; exact q1
      · have hp : findB I n = some x.wb := by
          have : I.find? (fun x => decide (x.n = n)) = some x := by
            obtain ⟨hi2, he⟩ := List.getElem?_eq_some_iff.1 HX.out
            rw [List.find?_eq_some_iff_getElem]
            refine ⟨by simpa using q1, i, hi2, he, fun j hj => ?_⟩
            have := HNO.out j _ hj (List.getElem?_eq_getElem (by omega))
            simpa using this
          unfold findB
          rw [this]
          rfl
        have HP := hid hp
        clear hp
        go_wp2_with fail
        go_ret
        exact ⟨by rw [HP.out]; rfl, rfl⟩
    · have hp : findB I n = none := by
        have : I.find? (fun x => decide (x.n = n)) = none := by
          rw [List.find?_eq_none]
          intro x hx
          obtain ⟨j, hj, rfl⟩ := List.mem_iff_getElem.1 hx
          have := HNO.out j _ (by omega) (List.getElem?_eq_getElem hj)
          simpa using this
        unfold findB
        rw [this]
        rfl
      have HP := hid hp
      clear hp
      go_wp2_with fail
      go_ret
      exact ⟨by rw [HP.out]; rfl, rfl⟩
theorem fit_any {F : Nat → Prop} {w : World} {b : Nat} {s : QS} (h : QAt Zz F w b s) (hn : s.ws.length ≤ 1000000) (n : Int) :
    Calls Tryz.prog 81 #[.pointer (some ⟨b, 34, none⟩), .int .i64 n] w fun e w' => e = .returned (.int .i64 (s.fit n)) ∧ w = w' := by
  obtain ⟨I, iv, qv, hR, hws⟩ := h
  have hIl : I.length ≤ 1000000 := by rw [hws] at hn; simpa [wsOf] using hn
  have hfd := find_any hR hIl n
  have hg := aget_ws n I
  rw [← hws] at hg
  unfold findB at hfd
  by_cases h1 : n < 1
  · have he : s.fit n = 1 := by simp [QS.fit, h1]
    have HE := hid he
    clear he hg hfd
    go_enter Tryz.func81, Tryz.ntmps81
    go_wp2_with fail
    go_ret
    exact ⟨by rw [HE.out]; rfl, rfl⟩
  · cases hf : I.find? (fun x => decide (x.n = n)) with
    | none =>
      rw [hf] at hfd hg
      simp only [Option.map_none] at hfd hg
      have he : s.fit n = 0 := by simp [QS.fit, h1, prepd, hg]
      have HE := hid he
      have HFD := hid hfd
      clear he hg hfd hf
      go_enter Tryz.func81, Tryz.ntmps81
      go_wp2_with fail
      refine HFD.out.mono ?_
      rintro e w1 ⟨rfl, rfl⟩
      go_wp2_with fail
      go_ret
      exact ⟨by rw [HE.out]; rfl, rfl⟩
    | some x =>
      have hx := hR.wk x (List.mem_of_find?_eq_some hf)
      have k2 : w.cell? ⟨x.wb, 2, none⟩ = some (.bool x.p) := by rw [cell_of_row _ _ 2 _ _ _ hx.2.1]; rfl
      rw [hf] at hfd hg
      simp only [Option.map_some] at hfd hg
      have he : s.fit n = if x.p then 7 else 0 := by simp [QS.fit, h1, prepd, hg]
      have HE := hid he
      have HFD := hid hfd
      clear he hg hfd hf hx
      cases hp : x.p
      all_goals
        rw [hp] at k2 HE
        go_enter Tryz.func81, Tryz.ntmps81
        go_wp2_with fail
        refine HFD.out.mono ?_
        rintro e w1 ⟨rfl, rfl⟩
        go_wp2_with fail
        go_ret
        exact ⟨by rw [HE.out]; rfl, rfl⟩
theorem decided_any (b : Nat) (n : Int) (w : World) : Calls Tryz.prog 94 #[.pointer (some ⟨b, 34, none⟩), .int .i64 n] w fun e w' => e = .returned (.int .i64 (if n < 1 then 1 else 0)) ∧ w = w' := by
  by_cases h1 : n < 1
  · go_enter Tryz.func94, Tryz.ntmps94
    go_wp2_with fail
    go_ret
    exact ⟨by first | rfl | (rw [if_pos h1]; rfl), rfl⟩
  · go_enter Tryz.func94, Tryz.ntmps94
    go_wp2_with fail
    go_ret
    exact ⟨by first | rfl | (rw [if_neg (by omega)]; rfl), rfl⟩
theorem next_any {F : Nat → Prop} {w : World} {b : Nat} {s : QS} (h : QAt Zz F w b s) (hg0 : 0 ≤ s.gv) (hg1 : s.gv ≤ 4611686018427387904) :
    Calls Tryz.prog 43 #[.pointer (some ⟨b, 34, none⟩)] w fun e w' => e = .returned (.int .i64 (s.gv + 1)) ∧ w = w' := by
  obtain ⟨I, iv, qv, hR, hws⟩ := h
  have hc : w.cell? ⟨b, 36, none⟩ = some (.int .i64 s.gv) := by rw [cell_of_row w b 36 _ _ _ hR.blk]; exact qget2 _ _ _ _
  have hw : wrap64 (s.gv + 1) = s.gv + 1 := by unfold wrap64; omega
  go_enter Tryz.func43, Tryz.ntmps43
  go_wp2_with fail
  go_ret
  exact ⟨by first | rfl | (simp [hw]), rfl⟩
theorem putsL_take {l : List Ch} {i : Nat} {y : Ch} (hy : l[i]? = some y) : putsL (l.take (i + 1)) = putsL (l.take i) + (if y.kind == 3 then 1 else 0) := by
  have h1 := (List.getElem?_eq_some_iff.1 hy).1
  have h2 := (List.getElem?_eq_some_iff.1 hy).2
  rw [List.take_succ_eq_append_getElem h1, putsL_append, h2]
  rfl
set_option maxRecDepth 100000 in
set_option maxHeartbeats 2000000 in
theorem puts_any (A : Option Addr) (l : List Ch) (c B : Nat) (w : World) (hl : ChAt w B A l) (hB : B ≤ w.heap.size) (hn : l.length ≤ 1000000) :
    Calls Tryz.prog 108 #[.slice A l.length c] w fun e w' => e = .returned (.int .i64 (putsL l)) ∧ Below w.heap.size w w' := by
  go_enter Tryz.func108, Tryz.ntmps108
  go_wp2_with fail
  go_loopg [3, 8] (l.length + 1) (fun m v3 v8 wr => ∃ i : Nat, v3 = .int .i64 (putsL (l.take i)) ∧ v8 = .int .i64 i ∧ i ≤ l.length ∧ m = l.length + 1 - i ∧ Below w.heap.size w wr)
  case atStart => exact ⟨0, rfl, rfl, Nat.zero_le _, rfl, Below.refl _ _⟩
  case round =>
    obtain ⟨i, rfl, rfl, hi, hm, hb⟩ := hrel
    have HN := hid hm
    clear hm
    by_cases h1 : i < l.length
    · obtain ⟨y, hy⟩ : ∃ y, l[i]? = some y := ⟨_, List.getElem?_eq_getElem h1⟩
      obtain ⟨b', off, rfl, hbb, hcc⟩ := (hl.below (hb.mono hB)) i y hy
      have k0 : wr.cell? ⟨b', off + i * 3, none⟩ = some (.int .i64 y.kind) := hcc 0 _ rfl
      have k1 := hcc 1 _ rfl
      have k2 := hcc 2 _ rfl
      have hst := putsL_take hy
      have hle : putsL (l.take i) ≤ 1000000 := by have := putsL_le (l.take i); rw [List.length_take] at this; omega
      have hba : Below w.heap.size w (wr.alloc (.cells #[.int .i64 y.kind, .int .i64 y.key, .int .u64 y.val] 90)) := hb.alloc hb.size _
      have HST := hid hst
      have HBA := hid hba
      clear hcc hy hst hba
      generalize putsL (l.take i) = P at *
      cases q : (y.kind == 3)
      · go_wp2_with fail
        go_roundg (l.length + 1 - (i + 1))
        case measure => rw [HN.out]; omega
        case rel => exact ⟨i + 1, by rw [HST.out, q]; rfl, by go_num, by omega, rfl, HBA.out⟩
      · go_wp2_with fail
        go_roundg (l.length + 1 - (i + 1))
        case measure => rw [HN.out]; omega
        case rel => exact ⟨i + 1, by rw [HST.out, q]; go_num, by go_num, by omega, rfl, HBA.out⟩
    · have : i = l.length := by omega
      subst this
      have HT := hid (congrArg putsL (List.take_length (l := l)))
      go_wp2_with fail
      go_ret
      exact ⟨by rw [← HT.out]; rfl, hb⟩
theorem wr64 {n : Int} (h0 : -9223372036854775808 ≤ n) (h1 : n ≤ 9223372036854775807) : IntKind.i64.wrap n = n := by
  unfold IntKind.wrap
  simp [IntKind.bits, IntKind.signed]
  omega
theorem st_step {p : Addr} {u : Value} {w0 w1 w2 : World} (hb : Below w1.heap.size w1 w2) (h : w1.cell? p = some u ∧ Below w0.heap.size w0 w1) : w2.cell? p = some u ∧ Below w0.heap.size w0 w2 :=
  ⟨(hb.cell (World.block_lt_of_cell? _ _ h.1)).trans h.1, h.2.trans (hb.mono h.2.size)⟩
theorem putsW_take {I : List WI} {i : Nat} {y : WI} (hy : I[i]? = some y) : putsW (wsOf (I.take (i + 1))) = putsW (wsOf (I.take i)) + putsL y.l := by
  have h1 := (List.getElem?_eq_some_iff.1 hy).1
  have h2 := (List.getElem?_eq_some_iff.1 hy).2
  rw [List.take_succ_eq_append_getElem h1, wsOf, List.map_append, putsW_append, h2]
  rfl
theorem putsW_pre (I : List WI) (i : Nat) : putsW (wsOf (I.take i)) ≤ putsW (wsOf I) := by
  have : putsW (wsOf I) = putsW (wsOf (I.take i)) + putsW (wsOf (I.drop i)) := by
    rw [← putsW_append]
    unfold wsOf
    rw [← List.map_append, List.take_append_drop]
  omega
set_option maxRecDepth 100000 in
set_option maxHeartbeats 2000000 in
theorem room_any {F : Nat → Prop} {w : World} {b : Nat} {s : QS} (h : QAt Zz F w b s) (hb : s.Bd) :
    Calls Tryz.prog 82 #[.pointer (some ⟨b, 34, none⟩)] w fun e w' => e = .returned (.int .i64 s.room) ∧ Below w.heap.size w w' := by
  have hat0 := h
  obtain ⟨I, iv, qv, hR, hws⟩ := h
  obtain ⟨hb1, hb2, hb3, hb4, hb5, hb6, hb7⟩ := hb
  have hIl : I.length ≤ 1000 := by rw [hws] at hb3; simpa [wsOf] using hb3
  have hc : w.cell? ⟨b, 35, none⟩ = some qv := by rw [cell_of_row w b 35 _ _ _ hR.blk]; exact qget1 _ _ _ _
  obtain ⟨A, c, rfl, hAc, hat⟩ := hR.wp.at_
  have HAT := hid hat
  have HR := hid hR
  have HWS := hid hws
  have HLS := hid hb4
  rw [hws] at hb5
  clear hat hR hws hb4
  go_enter Tryz.func82, Tryz.ntmps82
  go_wp2_with fail
  go_loopg [3, 11] (I.length + 1) (fun m v3 v11 wr => ∃ i : Nat, v3 = .int .i64 (putsW (wsOf (I.take i))) ∧ v11 = .int .i64 i ∧ i ≤ I.length ∧ m = I.length + 1 - i ∧ Below w.heap.size w wr)
  case atStart => exact ⟨0, rfl, rfl, Nat.zero_le _, rfl, Below.refl _ _⟩
  case round =>
    obtain ⟨i, rfl, rfl, hi, hm, hbl⟩ := hrel
    have HN := hid hm
    clear hm
    have hRr := HR.out.below hbl
    by_cases h1 : i < I.length
    · obtain ⟨x, hx⟩ : ∃ x, I[i]? = some x := ⟨_, List.getElem?_eq_getElem h1⟩
      obtain ⟨b', off, rfl, hbb, hcc⟩ := (HAT.out.below hbl) i x hx
      have k0 : wr.cell? ⟨b', off + i, none⟩ = some (ptrV x.wb) := by have := hcc 0 _ rfl; simpa [eWI] using this
      have hwk := hRr.wk x (List.mem_of_getElem? hx)
      obtain ⟨A2, c2, hv2, hc2, hat2⟩ := hwk.2.2.1.at_
      have k1 : wr.cell? ⟨x.wb, 1, none⟩ = some (.slice A2 x.l.length c2) := by rw [cell_of_row _ _ 1 _ _ _ hwk.2.1, ← hv2]; rfl
      have hxl : x.l.length ≤ 1000 := HLS.out (x.n, ⟨x.l, x.p⟩) (by rw [HWS.out]; exact List.mem_map.2 ⟨x, List.mem_of_getElem? hx, rfl⟩)
      have hst := putsW_take hx
      have hle := putsW_pre I i
      have hle2 := putsL_le x.l
      have HP := hid (puts_any A2 x.l c2 _ wr hat2 (Nat.le_refl _) (by omega))
      have HST := hid hst
      clear hcc hx hwk hat2 hst hv2 hRr
      generalize putsW (wsOf (I.take i)) = P at *
      generalize putsL x.l = Q at *
      go_wp2_with fail
      refine HP.out.mono ?_
      rintro e w2 ⟨rfl, f2⟩
      go_wp2_with fail
      go_roundg (I.length + 1 - (i + 1))
      case measure => rw [HN.out]; omega
      case rel => exact ⟨i + 1, by rw [HST.out]; go_num, by go_num, by omega, rfl, hbl.trans (f2.mono hbl.size)⟩
    · have : i = I.length := by omega
      subst this
      have hq : putsW (wsOf (I.take I.length)) = putsW s.ws := by rw [HWS.out, List.take_length]
      rw [← HWS.out] at hb5
      obtain ⟨A3, c3, hv3, hc3, hat3⟩ := hRr.it.at_
      have k0 : wr.cell? ⟨b, 34, none⟩ = some (.slice A3 s.its.length c3) := by rw [cell_of_row wr b 34 _ _ _ hRr.blk, ← hv3]; exact qget0 _ _ _ _
      have HNX := hid (fun w' (f : Below wr.heap.size wr w') => next_any ((hat0.below hbl).below f) hb6 hb7)
      have HQ := hid hq
      have hroom : s.room = min (16 - (s.its.length : Int) - putsW s.ws) (4611686018427387904 - (s.gv + 1) - putsW s.ws) := rfl
      have HROOM := hid hroom
      rw [hq]
      clear hq hroom hat3 hv3 hRr HQ
      generalize putsW s.ws = P at *
      generalize s.gv = gv at *
      generalize s.its.length = ln at *
      go_wp2_with fail
      have hS : wr.cell? ⟨b, 34, none⟩ = some (.slice A3 ln c3) ∧ Below wr.heap.size wr wr := ⟨k0, Below.refl _ _⟩
      clear k0
      have w1 : IntKind.i64.wrap (16 - (ln : Int)) = 16 - ln := wr64 (by omega) (by omega)
      have w2 : IntKind.i64.wrap (16 - (ln : Int) - (P : Int)) = 16 - ln - P := wr64 (by omega) (by omega)
      have w3 : IntKind.i64.wrap (4611686018427387904 - (gv + 1)) = 4611686018427387904 - (gv + 1) := wr64 (by omega) (by omega)
      have w4 : IntKind.i64.wrap (4611686018427387904 - (gv + 1) - (P : Int)) = 4611686018427387904 - (gv + 1) - P := wr64 (by omega) (by omega)
      go_region_held3 (fun w' => w'.cell? ⟨b, 34, none⟩ = some (.slice A3 ln c3) ∧ Below wr.heap.size wr w') (first | exact st_step (bd1 _) (by assumption) | exact st_step (bdN _ _) (by assumption) | exact st_step (by assumption) (by assumption) | assumption) (first
        | (go_at_call 43; refine (HNX.out _ ((by assumption : _ ∧ Below wr.heap.size wr _).2)).mono ?_; rintro e w4 ⟨rfl, rfl⟩))
      all_goals
        go_wp2_with fail
      all_goals
        go_ret
        refine ⟨?_, hbl.trans ((by assumption : _ ∧ Below wr.heap.size wr _).2.mono hbl.size)⟩
        rw [HROOM.out]
        show Ending.returned (Value.int .i64 _) = _
        congr 2
        omega
end Go.Proofs.YtdejbinmnoabeaaGreat.Q
namespace Go.Proofs.YtdejbinmnoabeaaGreat.Q
variable {Zz : QZ}
open Go.RowKit Go.Mine Go.Proofs.YtdejbinmnoabeaaGreatW.PrintWords
set_option linter.unusedVariables false
set_option linter.unusedSimpArgs false
def NotePost (Zz : QZ) (F : Nat → Prop) (w : World) (b : Nat) (s' : QS) (e : Ending) (w' : World) : Prop :=
  e = .returned (.tuple #[]) ∧ (∃ F', QAt Zz F' w' b s' ∧ Grew F F' w) ∧ Fr F w w'
theorem Grew.up {F F' : Nat → Prop} {w w' : World} (h : Grew F F' w') (hs : w.heap.size ≤ w'.heap.size) : Grew F F' w := fun i hi => (h i hi).imp id (fun q => Nat.le_trans hs q)
set_option maxRecDepth 100000 in
set_option maxHeartbeats 8000000 in
theorem note_any {F : Nat → Prop} {w : World} {b : Nat} {s : QS} (h : QAt Zz F w b s) (hb : s.Bd) (n : Int) (c : Ch) :
    Calls Tryz.prog 83 #[.pointer (some ⟨b, 34, none⟩), .int .i64 n, ChV c] w (NotePost Zz F w b ⟨s.its, noteW n c s.ws, s.gv⟩) := by
  have hb0 : Below w.heap.size w (w.alloc (.cells #[.int .i64 c.kind, .int .i64 c.key, .int .u64 c.val] 90)) := (Below.refl _ _).alloc (Nat.le_refl _) _
  have hx0 : (w.alloc (.cells #[.int .i64 c.kind, .int .i64 c.key, .int .u64 c.val] 90)).heap[w.heap.size]? = some (.cells #[.int .i64 c.kind, .int .i64 c.key, .int .u64 c.val] 90 (0, 0)) := (MapKept.heap_alloc w _).1
  obtain ⟨I, iv, qv, hR, hws⟩ := h
  obtain ⟨hb1, hb2, hb3, hb4, hb5, hb6, hb7⟩ := hb
  have hIl : I.length ≤ 1000 := by rw [hws] at hb3; simpa [wsOf] using hb3
  have ha := hR.below hb0
  have hfd := find_any ha (by omega) n
  have hbx : ¬ F w.heap.size := fun q => by have := hR.fb _ q; omega
  have hg := aget_ws n I
  rw [← hws] at hg
  have hfw : Fr F w (w.alloc (.cells #[.int .i64 c.kind, .int .i64 c.key, .int .u64 c.val] 90)) := (Fr.refl _ w).alloc _
  have hlsI : ∀ x ∈ I, x.l.length ≤ 1000 := fun x hx => hb4 (x.n, ⟨x.l, x.p⟩) (by rw [hws]; exact List.mem_map.2 ⟨x, hx, rfl⟩)
  have hsz : (w.alloc (.cells #[.int .i64 c.kind, .int .i64 c.key, .int .u64 c.val] 90)).heap.size = w.heap.size + 1 := by simp
  unfold findB at hfd
  have HWS := hid hws
  have HX0 := hid hx0
  have HBX := hid hbx
  have HFW0 := hid hfw
  have HLS := hid hlsI
  have HKEYS := hid hb1
  have HA := hid ha
  have HSZ := hid hsz
  clear hx0 hbx hfw hlsI hb4 hws hR hb1 hb0 ha hsz
  go_enter Tryz.func83, Tryz.ntmps83
  cases hf : I.find? (fun x => decide (x.n = n)) with
  | some x =>
    obtain ⟨J1, J2, hJ, hxn, _⟩ := find_split hf
    rw [hf] at hfd hg
    simp only [Option.map_some] at hfd hg
    have hnw : ∀ v', noteW n c s.ws = wsOf (J1 ++ ⟨x.n, x.wb, v', x.l ++ [c], x.p⟩ :: J2) := fun v' => by
      unfold noteW
      rw [hg]
      exact aput_ws HKEYS.out (by rw [HWS.out, hJ]) hxn _ _ _
    have HNW := hid hnw
    have HFD := hid hfd
    have hxI : x ∈ I := List.mem_of_find?_eq_some hf
    have hxle := HLS.out x hxI
    subst hJ
    clear hfd hg hf hnw hxI
    go_wp2_with fail
    generalize (w.alloc (.cells #[.int .i64 c.kind, .int .i64 c.key, .int .u64 c.val] 90)) = wr at *
    generalize w.heap.size = bx at *
    refine HFD.out.mono ?_
    rintro e w1 ⟨rfl, rfl⟩
    simp only [Option.map_some]
    have HGW : Hid (Grew F F w) := hid (Grew.refl _ _)
    have HD := HA
    have HX := HX0
    have HFW := HFW0
    obtain ⟨A, cp, hv, hAc, hat⟩ := (HD.out.wk x (by simp)).2.2.1.at_
    have hx1 := (HD.out.wk x (by simp)).2.1
    rw [hv] at hx1
    have c1 : wr.cell? ⟨x.wb, 1, none⟩ = some (.slice A x.l.length cp) := by rw [cell_of_row _ _ 1 _ _ _ hx1]; rfl
    have e0 : wr.cell? ⟨bx, 0, none⟩ = some (.int .i64 c.kind) := by rw [cell_of_row _ _ 0 _ _ _ HX.out]; rfl
    have e1 : wr.cell? ⟨bx, 1, none⟩ = some (.int .i64 c.key) := by rw [cell_of_row _ _ 1 _ _ _ HX.out]; rfl
    have e2 : wr.cell? ⟨bx, 2, none⟩ = some (.int .u64 c.val) := by rw [cell_of_row _ _ 2 _ _ _ HX.out]; rfl
    have c1a : (wr.alloc (.cells #[.int .i64 c.kind, .int .i64 c.key, .int .u64 c.val] 90)).cell? ⟨x.wb, 1, none⟩ = some (.slice A x.l.length cp) := by rw [World.cell?_alloc_lt _ _ _ (World.block_lt_of_cell? _ _ c1)]; exact c1
    have hH3 := HD.out.below (bd1 wr)
    have hx3 := hH3.wk x (by simp)
    have hrow := hx3.2.2.1
    rw [hv] at hrow
    have H3 := hid hH3
    have HX3 := hid hx3
    have HROW := hid hrow
    have HV := hid hv
    have HB3 : Hid (Fr F w wr.drew) := hid HFW.out.drew
    clear hH3 hx3 hrow hat hx1 hv HD HX
    go_wp2_with fail
    go_region_law (refine Kd.R_append_step eCh.kd (w0 := wr.drew) 0 (by rfl) (.tmp 29) (.tmp 31) 40 90 _ 24 rfl Tryz.underlying40 info90 (by rfl) (by decide) (by decide) (.slice A x.l.length cp) x.l c (encCh c) (fun _ => True) (fun _ => False) (by simp [Act.eval, Act.put]) (by simp [Act.eval, Act.put]) rfl (fun _ q => q.elim) (fun _ _ => trivial) HROW.out (Below.refl _ _) (Nat.zero_le _) (by omega) ?_; intro v5 w5 ho5 hb5 hg5 hat5; have hb5' : w5.heap[x.wb]? = some (.cells #[.int .i64 x.n, .slice A x.l.length cp, .bool x.p] 138 (0, 0)) := (by have := (hg5.block _ (Array.getElem?_eq_some_iff.1 HX3.out.2.1).1 (fun q => types_ne (HROW.out.typed q.symm) ⟨_, HX3.out.2.1⟩ (by decide))).trans HX3.out.2.1; rw [HV.out] at this; exact this); have hc5 : w5.cell? ⟨x.wb, 1, none⟩ = some (.slice A x.l.length cp) := (by rw [cell_of_row w5 x.wb 1 _ _ _ hb5']; rfl); have hz5 : w5.frozen? ⟨x.wb, 1, none⟩ = false := (by simp [World.frozen?, hb5']); have HO5 := hid ho5; have HG5 := hid hg5; have HT5 := hid hat5; have HB5 := hid hb5'; clear ho5 hg5 hat5 hb5'; obtain ⟨A5, c5, hv5⟩ := Kd.R_slice HO5.out; rw [List.length_append, List.length_singleton] at hv5; subst hv5)
    all_goals
      have hs6 : Fr (fun j => j = x.wb ∨ x.v.ownBlock = some j) wr.drew (w5.setCell ⟨x.wb, 1, none⟩ (.slice A5 (x.l.length + 1) c5)) := Fr.setCell (p := ⟨x.wb, 1, none⟩) ((Fr.of_grown HG5.out).mono (fun j hj => .inr (by rw [HV.out]; exact hj))) (.inl (.inl rfl)) _
      have hb6 : (w5.setCell ⟨x.wb, 1, none⟩ (.slice A5 (x.l.length + 1) c5)).heap[x.wb]? = some (.cells #[.int .i64 x.n, .slice A5 (x.l.length + 1) c5, .bool x.p] 138 (0, 0)) := blk_set' HB5.out 1 _
      have hr6 : ChRow (w5.setCell ⟨x.wb, 1, none⟩ (.slice A5 (x.l.length + 1) c5)) (.slice A5 (x.l.length + 1) c5) (x.l ++ [c]) := FR.move HO5.out (fun k hk => Below.heap_setCell _ _ _ _ (fun q => by
        have q' : k = x.wb := q
        subst q'
        exact types_ne (FR.typed HO5.out hk) ⟨_, HB5.out⟩ (by decide)))
      have hfin := H3.out.work hs6 hb6 hr6 (by rw [HV.out]; exact HT5.out)
      have hfr : Fr F w (w5.setCell ⟨x.wb, 1, none⟩ (.slice A5 (x.l.length + 1) c5)) := HB3.out.trans hs6 (fun j hj => by
        rcases hj with q | q
        · exact HGW.out j (by rw [q]; exact HX3.out.1)
        · exact HGW.out j (HX3.out.2.2.2 j q))
      have hgr := HGW.out.trans (grew_more _ wr.drew (w5.setCell ⟨x.wb, 1, none⟩ (.slice A5 (x.l.length + 1) c5))) HB3.out.size
      have HFIN := hid hfin
      have HFR := hid hfr
      have HGR := hid hgr
      clear hfin hfr hgr hs6 hb6 hr6
      go_wp2_with fail
      go_end0
      exact ⟨rfl, ⟨_, ⟨_, _, _, HFIN.out, HNW.out _⟩, HGR.out⟩, HFR.out⟩
  | none =>
    rw [hf] at hfd hg
    simp only [Option.map_none] at hfd hg
    have HFD := hid hfd
    have hnw : ∀ wb v', noteW n c s.ws = wsOf (I ++ ⟨n, wb, v', [] ++ [c], false⟩ :: []) := fun wb v' => by
      unfold noteW
      rw [hg, HWS.out]
      simp [wsOf]
    have HNW0 := hid hnw
    clear hfd hg hf hnw
    go_wp2_with fail
    generalize (w.alloc (.cells #[.int .i64 c.kind, .int .i64 c.key, .int .u64 c.val] 90)) = wa at *
    obtain ⟨bx, hbxe⟩ : ∃ bx, bx = w.heap.size := ⟨_, rfl⟩
    rw [← hbxe] at HX0 HBX HSZ ⊢
    refine HFD.out.mono ?_
    rintro e w1 ⟨rfl, rfl⟩
    simp only [Option.map_none]
    obtain ⟨Aq, cq, rfl, hAq, _⟩ := HA.out.wp.at_
    have hb3 : Below wa.heap.size wa (wa.alloc (.cells #[.int .i64 n, .slice none 0 0, .bool false] 138)) := (Below.refl _ _).alloc (Nat.le_refl _) _
    have hy3 : (wa.alloc (.cells #[.int .i64 n, .slice none 0 0, .bool false] 138)).heap[wa.heap.size]? = some (.cells #[.int .i64 n, .slice none 0 0, .bool false] 138 (0, 0)) := (MapKept.heap_alloc wa _).1
    have hR3 := HA.out.below hb3
    have hw3 : Fr (fun _ => False) wa (wa.alloc (.cells #[.int .i64 n, .slice none 0 0, .bool false] 138)) := (Fr.refl _ wa).alloc _
    have hc3 : (wa.alloc (.cells #[.int .i64 n, .slice none 0 0, .bool false] 138)).cell? ⟨b, 35, none⟩ = some (.slice Aq I.length cq) := by rw [cell_of_row _ b 35 _ _ _ hR3.blk]; exact qget1 _ _ _ _
    have HY3 := hid hy3
    have HR3 := hid hR3
    have HW3 := hid hw3
    have hwlt := HA.out.fb _ HA.out.bF
    clear hb3 hy3 hR3 hw3 HFD hbxe
    go_wp2_with (at_builtin; go_loud (refine Kd.R_append eWI.kd (w0 := (wa.alloc (.cells #[.int .i64 n, .slice none 0 0, .bool false] 138))) 0 rfl (.tmp 19) (.tmp 21) 76 119 _ 8 rfl Tryz.underlying76 info119 (by rfl) (by decide) (by decide) (.slice Aq I.length cq) I ⟨n, wa.heap.size, .slice none 0 0, [], false⟩ [ptrV wa.heap.size] (fun _ => True) (fun _ => False) rfl (by first | rfl | (simp; rfl)) rfl (fun _ q => q.elim) (fun _ _ => trivial) HR3.out.wp (Below.refl _ _) (Nat.zero_le _) (by omega) ?_); intro v8 w8 ho8 hb8 hg8 hat8; have hx8 : w8.heap[b]? = some (.cells (qCells Zz (iv) (.slice Aq I.length cq) (s.gv)) 82 (0, 0)) := (hg8.block _ (HR3.out.fb _ HR3.out.bF) (fun q => HR3.out.iv_ne.2.1 q.symm)).trans HR3.out.blk; have hz8 : w8.frozen? ⟨b, 35, none⟩ = false := (by simp [World.frozen?, hx8]); have hc8 : w8.cell? ⟨b, 35, none⟩ = some (.slice Aq I.length cq) := (by rw [cell_of_row w8 _ 35 _ _ _ hx8]; exact qget1 _ _ _ _); have HO8 := hid ho8; have HX8 := hid hx8; have HG8 := hid hg8; have HAT8 := hid hat8; clear ho8 hb8 hg8 hat8 hx8; obtain ⟨A8, c8, hv8⟩ := Kd.R_slice HO8.out; rw [List.length_append, List.length_singleton] at hv8; subst hv8)
    have hf8 : Fr (fun i => i = b ∨ (Value.slice Aq I.length cq).ownBlock = some i) (wa.alloc (.cells #[.int .i64 n, .slice none 0 0, .bool false] 138)) (w8.setCell ⟨b, 35, none⟩ (.slice A8 (I.length + 1) c8)) := Fr.setCell (p := ⟨b, 35, none⟩) ((Fr.of_grown HG8.out).mono (fun j hj => .inr hj)) (.inl (.inl rfl)) _
    have hfw : Fr (fun i => i = b ∨ (Value.slice Aq I.length cq).ownBlock = some i) wa (w8.setCell ⟨b, 35, none⟩ (.slice A8 (I.length + 1) c8)) := (HW3.out.mono (fun i hi => hi.elim)).trans hf8 (fun i hi => .inl hi)
    have hi8 : FR eIt 127 (w8.setCell ⟨b, 35, none⟩ (.slice A8 (I.length + 1) c8)) iv s.its := HA.out.it.move (fun k hk => hfw.block k (HA.out.it.lt hk) (fun q => by
      rcases q with q | q
      · exact HA.out.iv_ne.1 (by rw [hk, q])
      · exact HA.out.iv_ne.2.2 k hk q))
    have hq8 : FR eWI 119 (w8.setCell ⟨b, 35, none⟩ (.slice A8 (I.length + 1) c8)) (.slice A8 (I.length + 1) c8) (I ++ [⟨n, wa.heap.size, .slice none 0 0, [], false⟩]) := by
      have h0 : FR eWI 119 w8 (.slice A8 (I.length + 1) c8) (I ++ [⟨n, wa.heap.size, .slice none 0 0, [], false⟩]) := HO8.out
      exact h0.move (fun j hj => Below.heap_setCell _ _ _ _ (fun q => h0.ne HX8.out (by decide) (by rw [hj]; exact congrArg some q)))
    have hyk := hf8.at_ HY3.out (fun q => by
      rcases q with q | q
      · have := hwlt; omega
      · have := HA.out.wp.lt q; omega)
    have hfin := HA.out.addw (y := ⟨n, wa.heap.size, .slice none 0 0, [], false⟩) (hfw.mono (fun i hi => hi.imp id (fun q => .inr q))) (blk_q1 HX8.out (.slice A8 (I.length + 1) c8)) hi8 hq8 hyk (Nat.le_refl _) (FR.nil _ _ _) (fun k hk => by simp [Value.ownBlock] at hk) (fun j hj => by
      rcases HAT8.out with q | ⟨b', q, hb⟩
      · exact .inl (q ▸ hj)
      · rw [hj] at q; cases q; exact .inr (Nat.le_trans HW3.out.size hb))
    have hx9 : (w8.setCell ⟨b, 35, none⟩ (.slice A8 (I.length + 1) c8)).heap[bx]? = some (.cells #[.int .i64 c.kind, .int .i64 c.key, .int .u64 c.val] 90 (0, 0)) := hfw.at_ HX0.out (fun q => by
      rcases q with q | q
      · exact HBX.out (by rw [q]; exact HA.out.bF)
      · exact HBX.out (HA.out.qF _ q))
    have hfr9 : Fr F w (w8.setCell ⟨b, 35, none⟩ (.slice A8 (I.length + 1) c8)) := HFW0.out.trans hfw (fun j hj => .inl (by
      rcases hj with q | q
      · rw [q]; exact HA.out.bF
      · exact HA.out.qF _ q))
    have hgw9 := (grew_more F wa (w8.setCell ⟨b, 35, none⟩ (.slice A8 (I.length + 1) c8))).up HFW0.out.size
    obtain ⟨x, hxe⟩ : ∃ x : WI, x = ⟨n, wa.heap.size, .slice none 0 0, [], false⟩ := ⟨_, rfl⟩
    have hxw : wa.heap.size = x.wb := by rw [hxe]
    have hnw : ∀ v', noteW n c s.ws = wsOf (I ++ ⟨x.n, x.wb, v', x.l ++ [c], x.p⟩ :: []) := fun v' => by rw [hxe]; exact HNW0.out _ v'
    have hxle : x.l.length ≤ 1000 := by rw [hxe]; simp
    rw [← hxe] at hfin
    have HD := hid hfin
    have HX := hid hx9
    have HFW := hid hfr9
    have HGW := hid hgw9
    have HNW := hid hnw
    rw [hxw]
    generalize (more F wa (w8.setCell ⟨b, 35, none⟩ (.slice A8 (I.length + 1) c8))) = F2 at *
    clear hf8 hfw hi8 hq8 hyk hfin hx9 hfr9 hgw9 hnw HO8 HX8 HG8 HAT8 HA HR3 HY3 HW3 hc3 hz8 hc8 HX0 HFW0 HNW0 hxe hxw hwlt
    generalize (w8.setCell ⟨b, 35, none⟩ (.slice A8 (I.length + 1) c8)) = wr at *
    obtain ⟨A, cp, hv, hAc, hat⟩ := (HD.out.wk x (by simp)).2.2.1.at_
    have hx1 := (HD.out.wk x (by simp)).2.1
    rw [hv] at hx1
    have c1 : wr.cell? ⟨x.wb, 1, none⟩ = some (.slice A x.l.length cp) := by rw [cell_of_row _ _ 1 _ _ _ hx1]; rfl
    have e0 : wr.cell? ⟨bx, 0, none⟩ = some (.int .i64 c.kind) := by rw [cell_of_row _ _ 0 _ _ _ HX.out]; rfl
    have e1 : wr.cell? ⟨bx, 1, none⟩ = some (.int .i64 c.key) := by rw [cell_of_row _ _ 1 _ _ _ HX.out]; rfl
    have e2 : wr.cell? ⟨bx, 2, none⟩ = some (.int .u64 c.val) := by rw [cell_of_row _ _ 2 _ _ _ HX.out]; rfl
    have c1a : (wr.alloc (.cells #[.int .i64 c.kind, .int .i64 c.key, .int .u64 c.val] 90)).cell? ⟨x.wb, 1, none⟩ = some (.slice A x.l.length cp) := by rw [World.cell?_alloc_lt _ _ _ (World.block_lt_of_cell? _ _ c1)]; exact c1
    have hH3 := HD.out.below (bd1 wr)
    have hx3 := hH3.wk x (by simp)
    have hrow := hx3.2.2.1
    rw [hv] at hrow
    have H3 := hid hH3
    have HX3 := hid hx3
    have HROW := hid hrow
    have HV := hid hv
    have HB3 : Hid (Fr F w wr.drew) := hid HFW.out.drew
    clear hH3 hx3 hrow hat hx1 hv HD HX
    go_wp2_with fail
    go_region_law (refine Kd.R_append_step eCh.kd (w0 := wr.drew) 0 (by rfl) (.tmp 29) (.tmp 31) 40 90 _ 24 rfl Tryz.underlying40 info90 (by rfl) (by decide) (by decide) (.slice A x.l.length cp) x.l c (encCh c) (fun _ => True) (fun _ => False) (by simp [Act.eval, Act.put]) (by simp [Act.eval, Act.put]) rfl (fun _ q => q.elim) (fun _ _ => trivial) HROW.out (Below.refl _ _) (Nat.zero_le _) (by omega) ?_; intro v5 w5 ho5 hb5 hg5 hat5; have hb5' : w5.heap[x.wb]? = some (.cells #[.int .i64 x.n, .slice A x.l.length cp, .bool x.p] 138 (0, 0)) := (by have := (hg5.block _ (Array.getElem?_eq_some_iff.1 HX3.out.2.1).1 (fun q => types_ne (HROW.out.typed q.symm) ⟨_, HX3.out.2.1⟩ (by decide))).trans HX3.out.2.1; rw [HV.out] at this; exact this); have hc5 : w5.cell? ⟨x.wb, 1, none⟩ = some (.slice A x.l.length cp) := (by rw [cell_of_row w5 x.wb 1 _ _ _ hb5']; rfl); have hz5 : w5.frozen? ⟨x.wb, 1, none⟩ = false := (by simp [World.frozen?, hb5']); have HO5 := hid ho5; have HG5 := hid hg5; have HT5 := hid hat5; have HB5 := hid hb5'; clear ho5 hg5 hat5 hb5'; obtain ⟨A5, c5, hv5⟩ := Kd.R_slice HO5.out; rw [List.length_append, List.length_singleton] at hv5; subst hv5)
    all_goals
      have hs6 : Fr (fun j => j = x.wb ∨ x.v.ownBlock = some j) wr.drew (w5.setCell ⟨x.wb, 1, none⟩ (.slice A5 (x.l.length + 1) c5)) := Fr.setCell (p := ⟨x.wb, 1, none⟩) ((Fr.of_grown HG5.out).mono (fun j hj => .inr (by rw [HV.out]; exact hj))) (.inl (.inl rfl)) _
      have hb6 : (w5.setCell ⟨x.wb, 1, none⟩ (.slice A5 (x.l.length + 1) c5)).heap[x.wb]? = some (.cells #[.int .i64 x.n, .slice A5 (x.l.length + 1) c5, .bool x.p] 138 (0, 0)) := blk_set' HB5.out 1 _
      have hr6 : ChRow (w5.setCell ⟨x.wb, 1, none⟩ (.slice A5 (x.l.length + 1) c5)) (.slice A5 (x.l.length + 1) c5) (x.l ++ [c]) := FR.move HO5.out (fun k hk => Below.heap_setCell _ _ _ _ (fun q => by
        have q' : k = x.wb := q
        subst q'
        exact types_ne (FR.typed HO5.out hk) ⟨_, HB5.out⟩ (by decide)))
      have hfin := H3.out.work hs6 hb6 hr6 (by rw [HV.out]; exact HT5.out)
      have hfr : Fr F w (w5.setCell ⟨x.wb, 1, none⟩ (.slice A5 (x.l.length + 1) c5)) := HB3.out.trans hs6 (fun j hj => by
        rcases hj with q | q
        · exact HGW.out j (by rw [q]; exact HX3.out.1)
        · exact HGW.out j (HX3.out.2.2.2 j q))
      have hgr := HGW.out.trans (grew_more _ wr.drew (w5.setCell ⟨x.wb, 1, none⟩ (.slice A5 (x.l.length + 1) c5))) HB3.out.size
      have HFIN := hid hfin
      have HFR := hid hfr
      have HGR := hid hgr
      clear hfin hfr hgr hs6 hb6 hr6
      go_wp2_with fail
      go_end0
      exact ⟨rfl, ⟨_, ⟨_, _, _, HFIN.out, HNW.out _⟩, HGR.out⟩, HFR.out⟩
end Go.Proofs.YtdejbinmnoabeaaGreat.Q
namespace Go.Mine
def loadI (vals : List Int) (next : Int) : List It := (List.range vals.length).map (fun (i : Nat) => (⟨next - vals.length + (i : Int), vals.getD i 0, 0⟩ : It))
def QS.load (s : QS) (vals : List Int) (next : Int) : Int × QS :=
  if 0 < s.its.length + s.ws.length then (7, s)
  else if 16 < vals.length ∨ next ≤ vals.length ∨ 4611686018427387904 < next then (1, s)
  else (0, ⟨loadI vals next, s.ws, next - 1⟩)
theorem loadI_take {vals : List Int} {next : Int} {i : Nat} {y : Int} (hy : vals[i]? = some y) : (loadI vals next).take (i + 1) = (loadI vals next).take i ++ [⟨next - vals.length + i, y, 0⟩] := by
  have h1 := (List.getElem?_eq_some_iff.1 hy).1
  have h2 := (List.getElem?_eq_some_iff.1 hy).2
  have hl : i < (loadI vals next).length := by simp [loadI, h1]
  rw [List.take_succ_eq_append_getElem hl]
  congr 2
  simp [loadI, List.getD_eq_getElem?_getD, hy]
theorem loadI_len (vals : List Int) (next : Int) : (loadI vals next).length = vals.length := by simp [loadI]
end Go.Mine
namespace Go.Proofs.YtdejbinmnoabeaaGreat.Q
variable {Zz : QZ}
open Go.RowKit Go.Mine Go.Proofs.YtdejbinmnoabeaaGreatW.PrintWords
set_option linter.unusedVariables false
set_option linter.unusedSimpArgs false
def SPost (Zz : QZ) (F : Nat → Prop) (w : World) (b : Nat) (r : Int) (s' : QS) (e : Ending) (w' : World) : Prop :=
  e = .returned (.int .i64 r) ∧ (∃ F', QAt Zz F' w' b s' ∧ Grew F F' w) ∧ Fr F w w'
set_option maxRecDepth 100000 in
set_option maxHeartbeats 2000000 in
theorem gone_any {F : Nat → Prop} {w : World} {b : Nat} {s : QS} (h : QAt Zz F w b s) (hn : s.ws.length ≤ 1000000) (n : Int) :
    Calls Tryz.prog 114 #[.pointer (some ⟨b, 34, none⟩), .int .i64 n] w (NotePost Zz F w b ⟨s.its, adel n s.ws, s.gv⟩) := by
  have hb0 : Below w.heap.size w (w.alloc (.cells #[.int .i64 n] 3)) := (Below.refl _ _).alloc (Nat.le_refl _) _
  have hx0 : (w.alloc (.cells #[.int .i64 n] 3)).heap[w.heap.size]? = some (.cells #[.int .i64 n] 3 (0, 0)) := (MapKept.heap_alloc w _).1
  obtain ⟨I, iv, qv, hR, hws⟩ := h
  have hIl : I.length ≤ 1000000 := by rw [hws] at hn; simpa [wsOf] using hn
  have ha := hR.below hb0
  have hbx : ¬ F w.heap.size := fun q => by have := hR.fb _ q; omega
  have hfw : Fr F w (w.alloc (.cells #[.int .i64 n] 3)) := (Fr.refl _ w).alloc _
  have hc : (w.alloc (.cells #[.int .i64 n] 3)).cell? ⟨b, 35, none⟩ = some qv := by rw [cell_of_row _ b 35 _ _ _ ha.blk]; exact qget1 _ _ _ _
  have hdel := del_wp qv I n w.heap.size _ ha.wp (fun x hx => ⟨by rw [cell_of_row _ _ 0 _ _ _ (ha.wk x hx).2.1]; rfl, (ha.wb_ne hx).2.2⟩) (by rw [cell_of_row _ _ 0 _ _ _ hx0]; rfl) (fun q => hbx (ha.qF _ q)) hIl
  have HDEL := hid hdel
  have HA := hid ha
  have HFW := hid hfw
  have HWS := hid hws
  clear hb0 hx0 hR ha hfw hdel hws hbx
  go_enter Tryz.func114, Tryz.ntmps114
  go_wp2_with fail
  generalize w.alloc (.cells #[.int .i64 n] 3) = wa at *
  generalize w.heap.size = bx at *
  refine HDEL.out.mono ?_
  rintro e w2 ⟨v', rfl, hr2, ho2, hf2⟩
  obtain ⟨A2, c2, rfl, hc2, _⟩ := hr2.at_
  have hx2 : w2.heap[b]? = some (.cells (qCells Zz (iv) (qv) (s.gv)) 82 (0, 0)) := hf2.at_ HA.out.blk HA.out.iv_ne.2.1
  have hz2 : w2.frozen? ⟨b, 35, none⟩ = false := by simp [World.frozen?, hx2]
  have hcc2 : w2.cell? ⟨b, 35, none⟩ = some qv := by rw [cell_of_row w2 _ 35 _ _ _ hx2]; exact qget1 _ _ _ _
  have HX2 := hid hx2
  have HR2 := hid hr2
  have HO2 := hid ho2
  have HF2 := hid hf2
  clear hx2 hr2 ho2 hf2 HDEL
  go_wp2_with fail
  generalize hln : (I.filter (fun x => !(x.n == n))).length = ln at *
  have hf3 : Fr (fun i => i = b ∨ qv.ownBlock = some i) wa (w2.setCell ⟨b, 35, none⟩ (.slice A2 ln c2)) := Fr.setCell (p := ⟨b, 35, none⟩) (HF2.out.mono (fun i hi => .inr hi)) (.inl (.inl rfl)) _
  have hi3 : FR eIt 127 (w2.setCell ⟨b, 35, none⟩ (.slice A2 ln c2)) iv s.its := HA.out.it.move (fun k hk => hf3.block k (HA.out.it.lt hk) (fun q => by
    rcases q with q | q
    · exact HA.out.iv_ne.1 (by rw [hk, q])
    · exact HA.out.iv_ne.2.2 k hk q))
  have hq3 : FR eWI 119 (w2.setCell ⟨b, 35, none⟩ (.slice A2 ln c2)) (.slice A2 ln c2) (I.filter (fun x => !(x.n == n))) := HR2.out.move (fun k hk => Below.heap_setCell _ _ _ _ (fun q => by
    have q' : k = b := q
    subst q'
    rw [HO2.out] at hk
    exact HA.out.iv_ne.2.1 hk))
  have hfin := HA.out.turn (hf3.mono (fun i hi => hi.imp id (fun q => .inr q))) (blk_q1 HX2.out _) hi3 hq3 List.filter_sublist (fun j hj => .inl hj) (fun j hj => .inl (HO2.out ▸ hj))
  go_end0
  refine ⟨rfl, ⟨_, ⟨_, _, _, hfin, ?_⟩, (grew_more _ _ _).up HFW.out.size⟩, HFW.out.trans hf3 (fun i hi => .inl (by
    rcases hi with q | q
    · rw [q]; exact HA.out.bF
    · exact HA.out.qF _ q))⟩
  show adel n s.ws = _
  rw [HWS.out, adel_wsOf]
def eU : Enc Int := ⟨1, fun x => [.int .u64 x], fun _ => rfl, fun x u hu => by simp at hu; subst hu; rfl⟩
theorem info39 : (Tryz.prog.info? 39).map (fun i => (i.zero, i.size, i.bytes)) = some (some (.int .u64 0), 1, 8) := by kernel_rfl
set_option maxRecDepth 100000 in
set_option maxHeartbeats 2000000 in
theorem values_any {F : Nat → Prop} {w : World} {b : Nat} {s : QS} (h : QAt Zz F w b s) (hn : s.its.length ≤ 100000) :
    Calls Tryz.prog 42 #[.pointer (some ⟨b, 34, none⟩)] w fun e w' => ∃ v, e = .returned v ∧ FR eU 39 w' v (s.its.map (·.val)) ∧ (∀ k, v.ownBlock = some k → w.heap.size ≤ k) ∧ Below w.heap.size w w' := by
  obtain ⟨I, iv, qv, hR, hws⟩ := h
  have hc : w.cell? ⟨b, 34, none⟩ = some iv := by rw [cell_of_row w b 34 _ _ _ hR.blk]; exact qget0 _ _ _ _
  obtain ⟨A, c, rfl, hAc, hat⟩ := hR.it.at_
  have HAT := hid hat
  clear hat hR hws
  go_enter Tryz.func42, Tryz.ntmps42
  go_wp2_with fail
  go_loopg [3, 13] (s.its.length + 1) (fun m v3 v13 wr => ∃ i : Nat, v13 = .int .i64 i ∧ i ≤ s.its.length ∧ m = s.its.length + 1 - i ∧ eU.kd.R 39 wr w.heap.size (fun _ => True) v3 ((s.its.map (·.val)).take i) ∧ Below w.heap.size w wr)
  case atStart => exact ⟨0, rfl, Nat.zero_le _, rfl, Kd.R_nil _ _ _ _ _, Below.refl _ _⟩
  case round =>
    obtain ⟨i, rfl, hi, hm, hv, hb⟩ := hrel
    have HN := hid hm
    clear hm
    by_cases h1 : i < s.its.length
    · obtain ⟨x, hx⟩ : ∃ x, s.its[i]? = some x := ⟨_, List.getElem?_eq_getElem h1⟩
      obtain ⟨b', off, rfl, hbb, hcc⟩ := (HAT.out.below hb) i x hx
      have k0 : wr.cell? ⟨b', off + i * 3, none⟩ = some (.int .i64 x.num) := hcc 0 _ rfl
      have k1 : wr.cell? ⟨b', off + i * 3 + 1, none⟩ = some (.int .u64 x.val) := hcc 1 _ rfl
      have k2 : wr.cell? ⟨b', off + i * 3 + 2, none⟩ = some (.int .i64 x.by_) := hcc 2 _ rfl
      have hst : (s.its.map (·.val)).take (i + 1) = (s.its.map (·.val)).take i ++ [x.val] := by
        have hl : i < (s.its.map (·.val)).length := by rw [List.length_map]; exact h1
        rw [List.take_succ_eq_append_getElem hl]
        congr 2
        have := (List.getElem?_eq_some_iff.1 hx).2
        simp [this]
      have hba : Below wr.heap.size wr (wr.alloc (.cells #[.int .i64 x.num, .int .u64 x.val, .int .i64 x.by_] 127)) := (Below.refl _ _).alloc (Nat.le_refl _) _
      have hv2 := Kd.R_below hv hba
      have hbw := hb.trans (hba.mono hb.size)
      have hlt : ((s.its.map (·.val)).take i).length ≤ 100000 := by rw [List.length_take, List.length_map]; omega
      obtain ⟨A3, c3, hv3⟩ := Kd.R_slice hv
      subst hv3
      have HST := hid hst
      have HV2 := hid hv2
      have HBW := hid hbw
      have hsz : w.heap.size ≤ (wr.alloc (.cells #[.int .i64 x.num, .int .u64 x.val, .int .i64 x.by_] 127)).heap.size := hbw.size
      clear hcc hx hst hba hv hv2 hbw
      generalize (s.its.map (·.val)).take i = xs at *
      go_wp2_with (at_builtin; go_loud (refine Kd.R_append eU.kd (w0 := w) w.heap.size rfl (.tmp 17) (.tmp 20) 52 39 _ 8 rfl Tryz.underlying52 info39 (by rfl) (by decide) (by decide) (.slice A3 xs.length c3) xs x.val [.int .u64 x.val] (fun _ => True) (fun _ => False) rfl (by first | rfl | (simp; rfl)) rfl (fun _ q => q.elim) (fun _ _ => trivial) HV2.out HBW.out hsz (by omega) ?_); intro v8 w8 ho8 hb8 hg8 hat8; have HO8 := hid ho8; have HB8 := hid hb8; clear ho8 hb8 hg8 hat8)
      go_roundg (s.its.length + 1 - (i + 1))
      case measure => rw [HN.out]; omega
      case rel => exact ⟨i + 1, by go_num, by omega, rfl, by rw [HST.out]; exact HO8.out, HB8.out⟩
    · have : i = s.its.length := by omega
      subst this
      have hq : (s.its.map (·.val)).take s.its.length = s.its.map (·.val) := List.take_of_length_le (by simp)
      rw [hq] at hv
      have HV := hid hv
      go_wp2_with fail
      go_ret
      exact ⟨_, rfl, Kd.R_lower HV.out (Nat.zero_le _), Kd.R_base HV.out, hb⟩
abbrev UAt (w : World) (B : Nat) (A : Option Addr) (l : List Int) : Prop := RowAt (fun x => [.int .u64 x]) 1 w B A l
set_option maxRecDepth 100000 in
set_option maxHeartbeats 4000000 in
theorem load_any {F : Nat → Prop} {w : World} {b : Nat} {s : QS} (h : QAt Zz F w b s) (hb : s.Bd) (A : Option Addr) (vals : List Int) (c : Nat) (next : Int) (hv : UAt w w.heap.size A vals) (hA : vals ≠ [] → ∀ b' off, A = some ⟨b', off, none⟩ → ¬ F b') (hlen : vals.length ≤ 100000000000000000) (hc : vals.length ≤ c) :
    Calls Tryz.prog 49 #[.pointer (some ⟨b, 34, none⟩), .slice A vals.length c, .int .i64 next] w (SPost Zz F w b (s.load vals next).1 (s.load vals next).2) := by
  have h0 := h
  obtain ⟨I, iv, qv, hR, hws⟩ := h
  obtain ⟨hb1, hb2, hb3, hb4, hb5, hb6, hb7⟩ := hb
  have hIl : I.length ≤ 1000 := by rw [hws] at hb3; simpa [wsOf] using hb3
  have hwl : s.ws.length = I.length := by rw [hws]; simp [wsOf]
  have c0 : w.cell? ⟨b, 34, none⟩ = some iv := by rw [cell_of_row w b 34 _ _ _ hR.blk]; exact qget0 _ _ _ _
  have c1 : w.cell? ⟨b, 35, none⟩ = some qv := by rw [cell_of_row w b 35 _ _ _ hR.blk]; exact qget1 _ _ _ _
  obtain ⟨A0, cc0, rfl, hc0, _⟩ := hR.it.at_
  obtain ⟨A1, cc1, rfl, hc1, _⟩ := hR.wp.at_
  have HR := hid hR
  have HWS := hid hws
  have H0 := hid h0
  have HA := hid hA
  have HV := hid hv
  have HB4 := hid hb4
  clear hR hws h0 hA hv hb4 hb1
  go_enter Tryz.func49, Tryz.ntmps49
  by_cases hp : 0 < s.its.length + s.ws.length
  · have he : s.load vals next = (7, s) := by unfold QS.load; rw [if_pos hp]
    have HE := hid he
    have hp2 : decide (0 < (s.its.length : Int) + (I.length : Int)) = true := by simp; omega
    have ww : IntKind.i64.wrap ((s.its.length : Int) + (I.length : Int)) = (s.its.length : Int) + I.length := wr64 (by omega) (by omega)
    clear he
    go_wp2_with fail
    go_quiet (fail)
    go_wp2_with fail
    go_ret
    exact ⟨by rw [HE.out]; rfl, ⟨F, by rw [HE.out]; exact H0.out.below (bdN w _), Grew.refl _ _⟩, (Fr.refl _ w).drewN _⟩
  · have hi0 : s.its = [] := List.eq_nil_of_length_eq_zero (by omega)
    have hI0 : I = [] := List.eq_nil_of_length_eq_zero (by omega)
    subst hI0
    rw [hi0] at c0 HR
    simp only [List.length_nil] at c0 c1 HR
    by_cases hbad : 16 < vals.length ∨ next ≤ vals.length ∨ 4611686018427387904 < next
    · have he : s.load vals next = (1, s) := by unfold QS.load; rw [if_neg hp, if_pos hbad]
      have HE := hid he
      clear he
      go_wp2_with fail
      go_quiet (fail)
      go_wp2_with fail
      all_goals first
        | (go_ret; exact ⟨by rw [HE.out]; rfl, ⟨F, by rw [HE.out]; exact H0.out.below (bdN w _), Grew.refl _ _⟩, (Fr.refl _ w).drewN _⟩)
        | (exfalso; omega)
    · have he : s.load vals next = (0, ⟨loadI vals next, s.ws, next - 1⟩) := by unfold QS.load; rw [if_neg hp, if_neg hbad]
      have HE := hid he
      have g1 : (vals.length : Int) ≤ 16 := by omega
      have g2 : (vals.length : Int) < next := by omega
      have g3 : next ≤ 4611686018427387904 := by omega
      clear he hbad
      go_wp2_with fail
      go_quiet (fail)
      go_wp2_with fail
      have hg := H0.out.fb
      have ww1 : IntKind.i64.wrap (next - (vals.length : Int)) = next - vals.length := wr64 (by omega) (by omega)
      have ww3 : IntKind.i64.wrap (next - 1) = next - 1 := wr64 (by omega) (by omega)
      have HRn := hid (HR.out.below (bdN w nq))
      have hfn : Fr F w (w.drewN nq) := (Fr.refl F w).drewN nq
      clear c0 c1 HR
      go_loopg [41] (vals.length + 1) (fun m v wr => ∃ (i : Nat) (F' : Nat → Prop) (iv' : Value), v = .int .i64 i ∧ i ≤ vals.length ∧ m = vals.length + 1 - i ∧ QR Zz eIt T0 F' wr b ((loadI vals next).take i) [] s.gv iv' (.slice A1 0 cc1) ∧ Grew F F' w ∧ Fr F w wr)
      case atStart => exact ⟨0, F, _, rfl, Nat.zero_le _, rfl, HRn.out, Grew.refl _ _, hfn⟩
      case round =>
        obtain ⟨i, F', iv', rfl, hi, hm, hQ, hgr, hfr⟩ := hrel
        have HN := hid hm
        clear hm HRn hfn
        have hl : ((loadI vals next).take i).length = i := by rw [List.length_take, loadI_len]; omega
        obtain ⟨A3, c3, hv3, hc3, _⟩ := hQ.it.at_
        rw [hl] at hv3
        subst hv3
        have c0 : wr.cell? ⟨b, 34, none⟩ = some (.slice A3 i c3) := by rw [cell_of_row wr b 34 _ _ _ hQ.blk]; exact qget0 _ _ _ _
        by_cases h1 : i < vals.length
        · obtain ⟨y, hy⟩ : ∃ y, vals[i]? = some y := ⟨_, List.getElem?_eq_getElem h1⟩
          obtain ⟨b', off, rfl, hlt, hcc⟩ := HV.out i y hy
          have k0 : wr.cell? ⟨b', off + i, none⟩ = some (.int .u64 y) := by
            have := hfr.cell (hcc 0 _ rfl) (HA.out (by intro q; rw [q] at h1; simp at h1) b' off rfl)
            simpa using this
          have hst := loadI_take (next := next) hy
          have ww2 : IntKind.i64.wrap (next - (vals.length : Int) + (i : Int)) = next - vals.length + i := wr64 (by omega) (by omega)
          have HST := hid hst
          have HQ := hid hQ
          have HL := hid hl
          clear hcc hy hst hQ hl
          generalize (loadI vals next).take i = xs at *
          go_wp2_with (at_builtin; go_loud (refine Kd.R_append eIt.kd (w0 := wr) 0 rfl (.tmp 50) (.tmp 59) 75 127 _ 24 rfl Tryz.underlying75 info127 (by rfl) (by decide) (by decide) (.slice A3 i c3) xs ⟨next - vals.length + i, y, 0⟩ (encIt ⟨next - vals.length + i, y, 0⟩) (fun _ => True) (fun _ => False) rfl (by first | rfl | (simp; rfl)) rfl (fun _ q => q.elim) (fun _ _ => trivial) HQ.out.it (Below.refl _ _) (Nat.zero_le _) (by rw [HL.out]; omega) ?_); intro v8 w8 ho8 hb8 hg8 hat8; have hx8 : w8.heap[b]? = some (.cells (qCells Zz (.slice A3 i c3) (.slice A1 0 cc1) (s.gv)) 82 (0, 0)) := (hg8.block _ (HQ.out.fb _ HQ.out.bF) (fun q => HQ.out.iv_ne.1 q.symm)).trans HQ.out.blk; have hz8 : w8.frozen? ⟨b, 34, none⟩ = false := (by simp [World.frozen?, hx8]); have hc8 : w8.cell? ⟨b, 34, none⟩ = some (.slice A3 i c3) := (by rw [cell_of_row w8 _ 34 _ _ _ hx8]; exact qget0 _ _ _ _); have HO8 := hid ho8; have HX8 := hid hx8; have HG8 := hid hg8; have HAT8 := hid hat8; clear ho8 hb8 hg8 hat8 hx8; obtain ⟨A8, c8, hv8⟩ := Kd.R_slice HO8.out; rw [List.length_append, List.length_singleton, HL.out] at hv8; subst hv8)
          go_roundg (vals.length + 1 - (i + 1))
          case measure => rw [HN.out]; omega
          case rel =>
            have hf8 : Fr (fun k => k = b ∨ (Value.slice A3 i c3).ownBlock = some k) wr (w8.setCell ⟨b, 34, none⟩ (.slice A8 (i + 1) c8)) := Fr.setCell (p := ⟨b, 34, none⟩) ((Fr.of_grown HG8.out).mono (fun j hj => .inr hj)) (.inl (.inl rfl)) _
            have hi8 : FR eIt 127 (w8.setCell ⟨b, 34, none⟩ (.slice A8 (i + 1) c8)) (.slice A8 (i + 1) c8) ((loadI vals next).take (i + 1)) := by
              rw [HST.out]
              have h0 : FR eIt 127 w8 (.slice A8 (i + 1) c8) (xs ++ [⟨next - vals.length + i, y, 0⟩]) := HO8.out
              exact h0.move (fun j hj => Below.heap_setCell _ _ _ _ (fun q => h0.ne HX8.out (by decide) (by rw [hj]; exact congrArg some q)))
            have hq8 : FR eWI 119 (w8.setCell ⟨b, 34, none⟩ (.slice A8 (i + 1) c8)) (.slice A1 0 cc1) [] := HQ.out.wp.move (fun k hk => hf8.block k (HQ.out.wp.lt hk) (fun q => by
              rcases q with q | q
              · exact HQ.out.iv_ne.2.1 (by rw [hk, q])
              · exact HQ.out.iv_ne.2.2 k q hk))
            have hfin := HQ.out.turn (hf8.mono (fun k hk => hk.imp id (fun q => .inl q))) (blk_q0 HX8.out (.slice A8 (i + 1) c8)) hi8 hq8 (List.Sublist.refl _) (fun j hj => by
              rcases HAT8.out with q | ⟨b', q, hb⟩
              · exact .inl (q ▸ hj)
              · rw [hj] at q; cases q; exact .inr hb) (fun j hj => .inl hj)
            exact ⟨i + 1, _, _, by go_num, by omega, rfl, hfin, hgr.trans (grew_more _ _ _) hfr.size, hfr.trans hf8 (fun j hj => hgr j (by
              rcases hj with q | q
              · rw [q]; exact HQ.out.bF
              · exact HQ.out.iF _ q))⟩
        · have hil : i = vals.length := by omega
          have ht : (loadI vals next).take i = loadI vals next := by rw [hil]; exact List.take_of_length_le (by rw [loadI_len]; exact Nat.le_refl _)
          rw [ht] at hQ
          have hz : wr.frozen? ⟨b, 36, none⟩ = false := by simp [World.frozen?, hQ.blk]
          have hcz : wr.cell? ⟨b, 36, none⟩ = some (.int .i64 s.gv) := by rw [cell_of_row wr b 36 _ _ _ hQ.blk]; exact qget2 _ _ _ _
          have HQ := hid hQ
          clear hQ
          go_wp2_with fail
          have hf8 : Fr (fun k => k = b) wr (wr.setCell ⟨b, 36, none⟩ (.int .i64 (next - 1))) := Fr.setCell (S := fun k => k = b) (p := ⟨b, 36, none⟩) (Fr.refl _ wr) (.inl rfl) _
          have hfin := HQ.out.turn (hf8.mono (fun k hk => .inl hk)) (blk_q2 HQ.out.blk (.int .i64 (next - 1))) (HQ.out.it.move (fun k hk => hf8.block k (HQ.out.it.lt hk) (fun q => HQ.out.iv_ne.1 (by rw [hk, q])))) (HQ.out.wp.move (fun k hk => hf8.block k (HQ.out.wp.lt hk) (fun q => HQ.out.iv_ne.2.1 (by rw [hk, q])))) (List.Sublist.refl _) (fun j hj => .inl hj) (fun j hj => .inl hj)
          go_ret
          unfold SPost
          rw [HE.out]
          exact ⟨rfl, ⟨_, ⟨[], _, _, hfin, HWS.out⟩, hgr.trans (grew_more _ _ _) hfr.size⟩, hfr.trans hf8 (fun j hj => hgr j (by rw [hj]; exact HQ.out.bF))⟩
end Go.Proofs.YtdejbinmnoabeaaGreat.Q
