/- Walk of trothlaw14.played; a call at a state's level. Conditions: the lists came in ahead of the queue. -/
import Derived.Test.YtmckdoiepmkbbaaQuW
namespace Go.Mine
set_option linter.unusedVariables false
def stepQ (s : QS) (o : QOp) : QS := if longQ o = true then s else (callQ s o).2
def playQ (l : List QOp) : QS := (l.take 60).foldl stepQ QS.new
theorem QS.Ok.step {s : QS} (h : s.Ok) (o : QOp) : (stepQ s o).Ok := by
  unfold stepQ
  split
  · exact h
  · exact h.call o
theorem QS.Ok.fold : ∀ (l : List QOp) {s : QS}, s.Ok → (l.foldl stepQ s).Ok
  | [], _, h => h
  | o :: l, _, h => QS.Ok.fold l (h.step o)
theorem QS.Ok.play (l : List QOp) : (playQ l).Ok := QS.Ok.fold _ QS.Ok.new
theorem longQ_false {o : QOp} (h : longQ o = false) : o.l.length ≤ 40 ∧ o.v.length ≤ 40 := by
  unfold longQ at h
  rw [Bool.or_eq_false_iff] at h
  have h1 := h.1
  have h2 := h.2
  simp at h1 h2
  exact ⟨h1, h2⟩
end Go.Mine
namespace Go.Proofs.Ytmckdoiepmkbbaa
open Go.RowKit Go.Mine Go.Proofs.YtmckdoiepmkbbaaW.PrintWords
set_option linter.unusedVariables false
set_option linter.unusedSimpArgs false
def encOp (o : QOp) : List Value := [.int .i64 o.kind, .int .i64 o.work, .int .i64 o.next, .int .u64 o.val, .slice o.la o.l.length o.lc, .slice o.va o.v.length o.vc]
def OpIn (w : World) (B : Nat) (o : QOp) : Prop := ChAt w B o.la o.l ∧ o.l.length ≤ o.lc ∧ UAt w B o.va o.v ∧ o.v.length ≤ o.vc
theorem OpIn.below {w w' : World} {B : Nat} {o : QOp} (h : OpIn w B o) (hb : Below B w w') : OpIn w' B o := ⟨RowAt.below h.1 hb, h.2.1, RowAt.below h.2.2.1 hb, h.2.2.2⟩
/-- A slice of calls that came in. -/
def OpsAt (w : World) (B : Nat) (A : Option Addr) (l : List QOp) : Prop :=
  ∀ i x, l[i]? = some x → ∃ b off, A = some ⟨b, off, none⟩ ∧ b < B ∧ (∀ j v, (encOp x)[j]? = some v → w.cell? ⟨b, off + i * 6 + j, none⟩ = some v) ∧ OpIn w B x
theorem OpsAt.below {w w' : World} {B : Nat} {A : Option Addr} {l : List QOp} (h : OpsAt w B A l) (hb : Below B w w') : OpsAt w' B A l := by
  intro i x hx
  obtain ⟨b, off, e, hlt, hc, h1⟩ := h i x hx
  exact ⟨b, off, e, hlt, fun j v hv => (hb.cell (p := ⟨b, off + i * 6 + j, none⟩) hlt).trans (hc j v hv), h1.below hb⟩
theorem RowAt.block {α : Type} {f : α → List Value} {sz B : Nat} {w : World} {A : Option Addr} {l : List α} (h : RowAt f sz w B A l) (hl : l ≠ []) {b off : Nat} (e : A = some ⟨b, off, none⟩) : b < B := by
  obtain ⟨x, xs, rfl⟩ := List.exists_cons_of_ne_nil hl
  obtain ⟨b', off', e', hlt, _⟩ := h 0 x rfl
  rw [e] at e'
  cases e'
  exact hlt
theorem call_st {B : Nat} {w : World} {b : Nat} {s : QS} (h : St B w b s) (hok : s.Ok) (o : QOp) {B' : Nat} (hi : OpIn w B' o) (hB : B' ≤ B) (hn : longQ o = false) :
    Calls Try.prog 22 #[.pointer (some ⟨b, 0, none⟩), .agg #[.int .i64 o.kind, .int .i64 o.work, .int .i64 o.next, .int .u64 o.val, .slice o.la o.l.length o.lc, .slice o.va o.v.length o.vc]] w fun e w' =>
      (∃ v, e = .returned (.tuple #[.int .u64 (callQ s o).1.1, v, .int .i64 (callQ s o).1.2.2])) ∧ St B w' b (callQ s o).2 ∧ Below B w w' := by
  obtain ⟨⟨F, h1, h2⟩, h3⟩ := h
  obtain ⟨q1, q2⟩ := longQ_false hn
  have hbe : ∀ {α : Type} {f : α → List Value} {sz : Nat} {A : Option Addr} {l : List α}, RowAt f sz w B' A l → l ≠ [] → Beside F A := fun hr hl b off e hF => by
    have := hr.block hl e
    have := h2 b hF
    omega
  refine (call_any h1 hok o (fun _ => ⟨hi.1.up (by omega), hbe hi.1, by omega⟩) (fun _ => ⟨hi.2.2.1.up (by omega), hbe hi.2.2.1, hi.2.2.2, by omega⟩)).mono ?_
  rintro e w' ⟨v, F', he, hk, hg, hf, _, _⟩
  exact ⟨⟨_, he⟩, St.of h3 h2 hk hg hf⟩
set_option maxRecDepth 100000 in
set_option maxHeartbeats 2000000 in
theorem played_any (A : Option Addr) (l : List QOp) (c B : Nat) (w : World) (hB : B ≤ w.heap.size) (hl : OpsAt w B A l) :
    Calls Try.prog 18 #[.slice A l.length c] w fun e w' => ∃ b, e = .returned (.pointer (some ⟨b, 0, none⟩)) ∧ St w.heap.size w' b (playQ l) ∧ Below w.heap.size w w' := by
  go_enter Try.func18, Try.ntmps18
  go_wp2_with fail
  refine (new_st w).mono ?_
  rintro e w1 ⟨b0, rfl, t1, f1⟩
  go_wp2_with fail
  go_loopg [4] 61 (fun m v wr => ∃ i : Nat, v = .int .i64 i ∧ i ≤ l.length ∧ i ≤ 60 ∧ m = 61 - i ∧ St w.heap.size wr b0 ((l.take i).foldl stepQ QS.new) ∧ Below w.heap.size w wr)
  case atStart => exact ⟨0, rfl, Nat.zero_le _, Nat.zero_le _, rfl, t1, f1⟩
  case round =>
    obtain ⟨i, rfl, hi1, hi2, hm, ht, hf⟩ := hrel
    have HN := hid hm
    clear hm
    have hlr := hl.below (hf.mono hB)
    by_cases h1 : i < l.length
    · by_cases h2 : (i : Int) < 60
      · obtain ⟨x, hx⟩ : ∃ x, l[i]? = some x := ⟨_, List.getElem?_eq_getElem h1⟩
        obtain ⟨b, off, rfl, hb, hc, hch⟩ := hlr i x hx
        have k0 : wr.cell? ⟨b, off + i * 6, none⟩ = some (.int .i64 x.kind) := hc 0 _ rfl
        have k1 := hc 1 _ rfl
        have k2 := hc 2 _ rfl
        have k3 := hc 3 _ rfl
        have k4 : wr.cell? ⟨b, off + i * 6 + 4, none⟩ = some (.slice x.la x.l.length x.lc) := hc 4 _ rfl
        have k5 : wr.cell? ⟨b, off + i * 6 + 5, none⟩ = some (.slice x.va x.v.length x.vc) := hc 5 _ rfl
        have hst : (l.take (i + 1)).foldl stepQ QS.new = stepQ ((l.take i).foldl stepQ QS.new) x := by
          rw [List.take_succ_eq_append_getElem h1, List.foldl_append]
          have : l[i] = x := by rw [List.getElem?_eq_getElem h1] at hx; exact Option.some.inj hx
          simp [this]
        have hok := QS.Ok.fold (l.take i) QS.Ok.new
        have HS := hid hst
        have HCH := hid hch
        have HLR := hid hlr
        have HLG := hid (long_any x wr)
        generalize (l.take i).foldl stepQ QS.new = cur at *
        have HOK := hid hok
        clear hc hx hst hl hch hok hlr
        cases h30 : longQ x
        · have HC := hid (fun w2 (f : Below wr.heap.size wr w2) => call_st (ht.below f) HOK.out x (HCH.out.below (f.mono (Nat.le_trans hB hf.size))) hB h30)
          have HLR2 := hid (fun w2 (f : Below wr.heap.size wr w2) => HLR.out.below (f.mono (Nat.le_trans hB hf.size)))
          have hsx : stepQ cur x = (callQ cur x).2 := by unfold stepQ; rw [if_neg (by simp [h30])]
          have HX := hid hsx
          have HK := hid (fun w2 (f : Below wr.heap.size wr w2) => (⟨(f.cell (World.block_lt_of_cell? _ _ k0)).trans k0, (f.cell (World.block_lt_of_cell? _ _ k1)).trans k1, (f.cell (World.block_lt_of_cell? _ _ k2)).trans k2, (f.cell (World.block_lt_of_cell? _ _ k3)).trans k3, (f.cell (World.block_lt_of_cell? _ _ k4)).trans k4, (f.cell (World.block_lt_of_cell? _ _ k5)).trans k5⟩ : _ ∧ _ ∧ _ ∧ _ ∧ _ ∧ _))
          rw [h30] at HLG
          clear hsx h30
          go_wp2_with fail
          refine HLG.out.mono ?_
          rintro e w2 ⟨rfl, f2⟩
          have HC2 := hid (HC.out w2 f2)
          obtain ⟨j0, j1, j2, j3, j4, j5⟩ := HK.out w2 f2
          clear k0 k1 k2 k3 k4 k5 HC HK HLR2
          go_wp2_with fail
          refine HC2.out.mono ?_
          rintro e w3 ⟨⟨v, rfl⟩, t3, f3⟩
          go_wp2_with fail
          go_roundg (61 - (i + 1))
          case measure => rw [HN.out]; omega
          case rel => exact ⟨i + 1, by go_num, by omega, by omega, rfl, by rw [HS.out, HX.out]; exact t3, (hf.trans (f2.mono hf.size)).trans f3⟩
        · have hsx : stepQ cur x = cur := by unfold stepQ; rw [if_pos h30]
          have HX := hid hsx
          rw [h30] at HLG
          clear hsx h30
          go_wp2_with fail
          refine HLG.out.mono ?_
          rintro e w2 ⟨rfl, f2⟩
          go_wp2_with fail
          go_roundg (61 - (i + 1))
          case measure => rw [HN.out]; omega
          case rel => exact ⟨i + 1, by go_num, by omega, by omega, rfl, by rw [HS.out, HX.out]; exact ht.below f2, hf.trans (f2.mono hf.size)⟩
      · go_wp2_with fail
        go_ret
        have : i = 60 := by omega
        subst this
        exact ⟨_, rfl, ht, hf⟩
    · go_wp2_with fail
      go_ret
      have : i = l.length := by omega
      subst this
      refine ⟨_, rfl, ?_, hf⟩
      have e : l.take l.length = l.take 60 := by rw [List.take_of_length_le (Nat.le_refl _), List.take_of_length_le hi2]
      rw [e] at ht
      exact ht
end Go.Proofs.Ytmckdoiepmkbbaa
