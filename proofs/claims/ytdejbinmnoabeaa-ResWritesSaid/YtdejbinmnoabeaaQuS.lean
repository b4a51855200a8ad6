/- Walks of the queue: right. Conditions: the queue reads as QAt Zz says. -/
import Derived.Test.YtdejbinmnoabeaaQuP
namespace Go.Mine
def frontOk (its : List It) : List Ch → Nat → Bool
  | [], _ => true
  | c :: cs, f => if (c.kind == 3 && c.key == 0) = true then frontOk its cs f else if c.kind = 4 ∧ its[f]? = some ⟨c.key, c.val, 0⟩ then frontOk its cs (f + 1) else false
def QS.right (s : QS) (l : List Ch) : Bool := frontOk s.its l 0 && decide ((putsL l : Int) ≤ max s.room 0)
theorem frontOk_step {its : List It} {l : List Ch} {i f : Nat} {y : Ch} (hy : l[i]? = some y) : frontOk its (l.drop i) f = if (y.kind == 3 && y.key == 0) = true then frontOk its (l.drop (i + 1)) f else if y.kind = 4 ∧ its[f]? = some ⟨y.key, y.val, 0⟩ then frontOk its (l.drop (i + 1)) (f + 1) else false := by
  have h1 := (List.getElem?_eq_some_iff.1 hy).1
  have h2 := (List.getElem?_eq_some_iff.1 hy).2
  rw [List.drop_eq_getElem_cons h1, h2, frontOk]
end Go.Mine
namespace Go.Proofs.Ytdejbinmnoabeaa.Q
variable {Zz : QZ}
open Go.RowKit Go.Mine Go.Proofs.YtdejbinmnoabeaaW.PrintWords
set_option linter.unusedVariables false
set_option linter.unusedSimpArgs false
set_option maxRecDepth 100000 in
set_option maxHeartbeats 4000000 in
theorem right_any {F : Nat → Prop} {w : World} {b : Nat} {s : QS} (h : QAt Zz F w b s) (hb : s.Bd) (A : Option Addr) (l : List Ch) (c B : Nat) (hl : ChAt w B A l) (hB : B ≤ w.heap.size) (hn : l.length ≤ 1000000) :
    Calls Try.prog 72 #[.pointer (some ⟨b, 34, none⟩), .slice A l.length c] w fun e w' => e = .returned (.bool (s.right l)) ∧ Below w.heap.size w w' := by
  have HQ := hid h
  have HB := hid hb
  have HP := hid (fun w' (f : Below w.heap.size w w') => puts_any A l c B w' (hl.below (f.mono hB)) (Nat.le_trans hB f.size) hn)
  have HRM := hid (fun w' (f : Below w.heap.size w w') => room_any (h.below f) hb)
  have hil := hb.its
  clear hb
  go_enter Try.func72, Try.ntmps72
  go_wp2_with fail
  go_loopg [5, 10] (l.length + 1) (fun m v5 v10 wr => ∃ i f : Nat, v5 = .int .i64 f ∧ v10 = .int .i64 i ∧ i ≤ l.length ∧ f ≤ i ∧ m = l.length + 1 - i ∧ frontOk s.its l 0 = frontOk s.its (l.drop i) f ∧ Below w.heap.size w wr)
  case atStart => exact ⟨0, 0, rfl, rfl, Nat.zero_le _, Nat.le_refl _, rfl, rfl, Below.refl _ _⟩
  case round =>
    obtain ⟨i, f, rfl, rfl, hi, hfi, hm, hr, hbl⟩ := hrel
    have HN := hid hm
    have HR := hid hr
    clear hm hr
    by_cases h1 : i < l.length
    · obtain ⟨y, hy⟩ : ∃ y, l[i]? = some y := ⟨_, List.getElem?_eq_getElem h1⟩
      obtain ⟨b', off, rfl, hbb, hcc⟩ := (hl.below (hbl.mono hB)) i y hy
      have k0 : wr.cell? ⟨b', off + i * 3, none⟩ = some (.int .i64 y.kind) := hcc 0 _ rfl
      have k1 := hcc 1 _ rfl
      have k2 := hcc 2 _ rfl
      have hst := HR.out.trans (frontOk_step (f := f) hy)
      have HST := hid hst
      obtain ⟨I, iv, qv, hR, hws⟩ := HQ.out.below hbl
      have hba : Below w.heap.size w (wr.alloc (.cells #[.int .i64 y.kind, .int .i64 y.key, .int .u64 y.val] 62)) := hbl.alloc hbl.size _
      have hba2 : Below wr.heap.size wr (wr.alloc (.cells #[.int .i64 y.kind, .int .i64 y.key, .int .u64 y.val] 62)) := (Below.refl _ _).alloc (Nat.le_refl _) _
      have hRa := hR.below hba2
      have hRa2 := hRa.below (bd1 _)
      have HBA := hid hba
      have hx1 : (wr.alloc (.cells #[.int .i64 y.kind, .int .i64 y.key, .int .u64 y.val] 62)).heap[wr.heap.size]? = some (.cells #[.int .i64 y.kind, .int .i64 y.key, .int .u64 y.val] 62 (0, 0)) := (MapKept.heap_alloc wr _).1
      have e0 := cell_of_row _ _ 0 _ _ _ hx1
      have e1 := cell_of_row _ _ 1 _ _ _ hx1
      have e2 := cell_of_row _ _ 2 _ _ _ hx1
      obtain ⟨A3, c3, hv3, hc3, hat3⟩ := hRa.it.at_
      have g0 : (wr.alloc (.cells #[.int .i64 y.kind, .int .i64 y.key, .int .u64 y.val] 62)).cell? ⟨b, 34, none⟩ = some (.slice A3 s.its.length c3) := by rw [cell_of_row _ b 34 _ _ _ hRa.blk, ← hv3]; exact qget0 _ _ _ _
      have hat3' : RowAt encIt 3 (wr.alloc (.cells #[.int .i64 y.kind, .int .i64 y.key, .int .u64 y.val] 62)) (wr.alloc (.cells #[.int .i64 y.kind, .int .i64 y.key, .int .u64 y.val] 62)).heap.size A3 s.its := hat3
      have HAT3 := hid hat3'
      clear hcc hst hR hws hba hba2 hRa hRa2 hx1 hat3 hat3' hv3 hl hy
      by_cases q3 : (y.kind == 3 && y.key == 0) = true
      · have q3' := q3
        rw [Bool.and_eq_true] at q3'
        obtain ⟨qa, qb⟩ := q3'
        have HQ3 := hid q3
        clear q3
        go_wp2_with fail
        go_roundg (l.length + 1 - (i + 1))
        case measure => rw [HN.out]; omega
        case rel => exact ⟨i + 1, f, rfl, by go_num, by omega, by omega, rfl, by rw [HST.out, if_pos HQ3.out], HBA.out⟩
      · by_cases q4 : y.kind = 4 ∧ s.its[f]? = some ⟨y.key, y.val, 0⟩
        · have HE := hid (HST.out.trans (by rw [if_neg q3, if_pos q4]))
          obtain ⟨qa, qb⟩ := q4
          obtain ⟨b3, off3, rfl, hb3, hc3'⟩ := HAT3.out f _ qb
          have hfl := (List.getElem?_eq_some_iff.1 qb).1
          have d0 : (wr.alloc (.cells #[.int .i64 y.kind, .int .i64 y.key, .int .u64 y.val] 62)).cell? ⟨b3, off3 + f * 3, none⟩ = some (.int .i64 y.key) := hc3' 0 _ rfl
          have d1 := hc3' 1 _ rfl
          have d2 := hc3' 2 _ rfl
          clear hc3' HST q3 qb
          obtain ⟨kd, ky, vl⟩ := y
          simp only at qa
          subst qa
          simp only at *
          go_wp2_with fail
          go_quiet (fail)
          go_wp2_with fail
          go_roundg (l.length + 1 - (i + 1))
          case measure => rw [HN.out]; omega
          case rel => exact ⟨i + 1, f + 1, by go_num, by go_num, by omega, by omega, rfl, HE.out, HBA.out.trans ((bdN _ _).mono HBA.out.size)⟩
        · have hfa : s.right l = false := by unfold QS.right; rw [HST.out, if_neg q3, if_neg q4]; rfl
          have HFA := hid hfa
          clear hfa HST
          obtain ⟨kd, ky, vl⟩ := y
          simp only at *
          cases q5 : (kd == 4)
          · cases q6 : (kd == 3)
            · clear q3 q4
              go_wp2_with fail
              go_quiet (fail)
              go_wp2_with fail
              go_ret
              exact ⟨by rw [HFA.out]; rfl, HBA.out.trans ((bdN _ _).mono HBA.out.size)⟩
            · have q7 : (ky == 0) = false := by
                cases hq : (ky == 0) with
                | false => rfl
                | true => exact absurd (by rw [q6, hq]; rfl) q3
              clear q3 q4
              go_wp2_with fail
              go_quiet (fail)
              go_wp2_with fail
              go_ret
              exact ⟨by rw [HFA.out]; rfl, HBA.out.trans ((bdN _ _).mono HBA.out.size)⟩
          · have q5' : kd = 4 := by simpa using q5
            subst q5'
            clear q5 q3
            by_cases hfl : f < s.its.length
            · obtain ⟨x, hx⟩ : ∃ x, s.its[f]? = some x := ⟨_, List.getElem?_eq_getElem hfl⟩
              obtain ⟨b3, off3, rfl, hb3, hc3'⟩ := HAT3.out f x hx
              have d0 : (wr.alloc (.cells #[.int .i64 4, .int .i64 ky, .int .u64 vl] 62)).cell? ⟨b3, off3 + f * 3, none⟩ = some (.int .i64 x.num) := hc3' 0 _ rfl
              have d1 := hc3' 1 _ rfl
              have d2 := hc3' 2 _ rfl
              have hno : ¬ ((x.num == ky) = true ∧ (x.val == vl) = true ∧ (x.by_ == 0) = true) := by
                rintro ⟨p1, p2, p3⟩
                refine q4 ⟨rfl, ?_⟩
                rw [hx]
                obtain ⟨xn, xv, xb⟩ := x
                simp at p1 p2 p3
                rw [p1, p2, p3]
              clear hc3' hx q4
              cases p1 : (x.num == ky) <;> cases p2 : (x.val == vl) <;> cases p3 : (x.by_ == 0)
              case true.true.true => exact absurd ⟨p1, p2, p3⟩ hno
              all_goals
                clear hno
                go_wp2_with fail
                go_quiet (fail)
                go_wp2_with fail
                go_ret
                exact ⟨by rw [HFA.out]; rfl, HBA.out.trans ((bdN _ _).mono HBA.out.size)⟩
            · clear q4
              go_wp2_with fail
              go_quiet (fail)
              go_wp2_with fail
              go_ret
              exact ⟨by rw [HFA.out]; rfl, HBA.out.trans ((bdN _ _).mono HBA.out.size)⟩
    · have hi' : i = l.length := by omega
      subst hi'
      have hq : frontOk s.its l 0 = true := by rw [HR.out, List.drop_length]; rfl
      have he : s.right l = decide ((putsL l : Int) ≤ max s.room 0) := by unfold QS.right; rw [hq]; rfl
      have HE := hid he
      have hle := putsL_le l
      clear hq he
      generalize s.room = rm at *
      generalize putsL l = P at *
      go_wp2_with fail
      refine (HP.out _ hbl).mono ?_
      rintro e w2 ⟨rfl, f2⟩
      go_wp2_with fail
      refine (HRM.out _ (hbl.trans (f2.mono hbl.size))).mono ?_
      rintro e w3 ⟨rfl, f3⟩
      go_wp2_with fail
      all_goals
        go_ret
        refine ⟨?_, (hbl.trans (f2.mono hbl.size)).trans (f3.mono (Nat.le_trans hbl.size f2.size))⟩
        rw [HE.out]
        exact congrArg (fun b => Ending.returned (Value.bool b)) (by rw [decide_eq_decide]; omega)
end Go.Proofs.Ytdejbinmnoabeaa.Q
