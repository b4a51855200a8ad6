/- Walk of trothlaw12.LockClash: it answers true. Condition: the arguments lie in memory as their lists say. -/
import Derived.Test.YtgfiifhnnjammaaLock6
namespace Go.Proofs.Ytgfiifhnnjammaa
open Go.RowKit Go.Mine
set_option linter.unusedVariables false
set_option linter.unusedSimpArgs false

/-- A slice of ints that came in. -/
def IntsAt (w : World) (B : Nat) (A : Option Addr) (l : List Int) : Prop :=
  ∀ i x, l[i]? = some x → ∃ b off, A = some ⟨b, off, none⟩ ∧ b < B ∧ w.cell? ⟨b, off + i, none⟩ = some (.int .i64 x)
theorem IntsAt.below {w w' : World} {B : Nat} {A : Option Addr} {l : List Int} (h : IntsAt w B A l) (hb : Below B w w') : IntsAt w' B A l := by
  intro i x hx
  obtain ⟨b, off, e, hlt, hc⟩ := h i x hx
  exact ⟨b, off, e, hlt, (hb.cell (p := ⟨b, off + i, none⟩) hlt).trans hc⟩

theorem bdrewN {B : Nat} {a w : World} (h : Below B a w) (n : Nat) : Below B a (w.drewN n) := h.trans ⟨rfl, rfl, rfl, Nat.le_refl _, fun _ _ => rfl⟩
theorem IntsAt.open_ {w : World} {B : Nat} {A : Option Addr} {l : List Int} (h : IntsAt w B A l) {i : Nat} (hi : i < l.length) : ∃ b off, A = some ⟨b, off, none⟩ ∧ b < B ∧ ∀ k x, l[k]? = some x → w.cell? ⟨b, off + k, none⟩ = some (.int .i64 x) := by
  obtain ⟨b, off, e, hb, _⟩ := h i l[i] (List.getElem?_eq_getElem hi)
  refine ⟨b, off, e, hb, fun k x hx => ?_⟩
  obtain ⟨b', off', e', _, hc⟩ := h k x hx
  rw [e] at e'
  cases e'
  exact hc

set_option maxRecDepth 100000 in
set_option maxHeartbeats 4000000 in
theorem clash_any (A0 A1 A2 : Option Addr) (l : List OpT) (os ks : List Int) (c0 c1 c2 : Nat) (w : World) (hl : OpsAt w w.heap.size A0 l) (ho : IntsAt w w.heap.size A1 os) (hk : IntsAt w w.heap.size A2 ks)
    (hcap : l.length ≤ 1000000000000000000) (hcap1 : os.length ≤ 1000000000000000000) (hcap2 : ks.length ≤ 1000000000000000000) :
    Calls Try.prog 3 #[.slice A0 l.length c0, .slice A1 os.length c1, .slice A2 ks.length c2] w fun e w' => e = .returned (.bool true) ∧ Below w.heap.size w w' := by
  go_enter Try.func3, Try.ntmps3
  go_wp2_with fail
  refine (played_any A0 l c0 w _ (Nat.le_refl _) hl hcap).mono ?_
  rintro e w1 ⟨b0, rfl, t1, f1⟩
  have hR := Right.play l
  generalize playA l = T at t1 hR
  go_wp2_with fail
  go_loopg [8] 9 (fun n v wr => ∃ i : Nat, v = .int .i64 i ∧ i ≤ os.length ∧ i ≤ 8 ∧ n = 9 - i ∧ OT w.heap.size wr b0 T ∧ Below w.heap.size w wr)
  case atStart => exact ⟨0, rfl, Nat.zero_le _, Nat.zero_le _, rfl, t1, f1⟩
  case round =>
    obtain ⟨i, rfl, hi1, hi2, hn, ht, hf⟩ := hrel
    have HN := hid hn
    clear hn
    obtain ⟨wo, rfl⟩ : ∃ wo : World, wo = wr := ⟨_, rfl⟩
    by_cases h1 : i < os.length ∧ (i : Int) < 8
    · obtain ⟨h1, h2⟩ := h1
      go_wp2_with fail
      go_loopg [9] 9 (fun n v wr => ∃ k : Nat, v = .int .i64 k ∧ k ≤ os.length ∧ k ≤ 8 ∧ n = 9 - k ∧ OT w.heap.size wr b0 T ∧ Below w.heap.size w wr)
      case atStart => exact ⟨0, rfl, Nat.zero_le _, Nat.zero_le _, rfl, ht, hf⟩
      case round =>
        obtain ⟨k, rfl, hk1, hk2, hn, ht, hf⟩ := hrel
        have HN2 := hid hn
        clear hn
        obtain ⟨wp, rfl⟩ : ∃ wo : World, wo = wr := ⟨_, rfl⟩
        by_cases h3 : k < os.length ∧ (k : Int) < 8
        · obtain ⟨h3, h4⟩ := h3
          go_wp2_with fail
          go_loopg [10] 9 (fun n v wr => ∃ j : Nat, v = .int .i64 j ∧ j ≤ ks.length ∧ j ≤ 8 ∧ n = 9 - j ∧ OT w.heap.size wr b0 T ∧ Below w.heap.size w wr)
          case atStart => exact ⟨0, rfl, Nat.zero_le _, Nat.zero_le _, rfl, ht, hf⟩
          case round =>
            obtain ⟨j, rfl, hj1, hj2, hn, ht, hf⟩ := hrel
            have HN3 := hid hn
            clear hn
            by_cases h5 : j < ks.length ∧ (j : Int) < 8
            · obtain ⟨h5, h6⟩ := h5
              obtain ⟨b1, o1, rfl, hb1, hos⟩ := ho.open_ h1
              obtain ⟨b2, o2, rfl, hb2, hks⟩ := hk.open_ h5
              obtain ⟨xi, hxi⟩ : ∃ x, os[i]? = some x := ⟨_, List.getElem?_eq_getElem h1⟩
              obtain ⟨xk, hxk⟩ : ∃ x, os[k]? = some x := ⟨_, List.getElem?_eq_getElem h3⟩
              obtain ⟨y, hy⟩ : ∃ x, ks[j]? = some x := ⟨_, List.getElem?_eq_getElem h5⟩
              have ci := (hf.cell (p := ⟨b1, o1 + i, none⟩) hb1).trans (hos i xi hxi)
              have ck := (hf.cell (p := ⟨b1, o1 + k, none⟩) hb1).trans (hos k xk hxk)
              have cj := (hf.cell (p := ⟨b2, o2 + j, none⟩) hb2).trans (hks j y hy)
              have hcl : ¬ ((xi != xk) = true ∧ (aget (y, xi) T).isSome = true ∧ (aget (y, xi) T).getD false = true ∧ (aget (y, xk) T).isSome = true) := by
                rintro ⟨e1, e2, e3, e4⟩
                obtain ⟨u, hu⟩ := Option.isSome_iff_exists.1 e2
                obtain ⟨v, hv⟩ := Option.isSome_iff_exists.1 e4
                rw [hu] at e3
                have := hR.clash _ (aget_mem hu) _ (aget_mem hv) rfl (by simpa using e1)
                simp only [Option.getD_some] at e3
                rw [e3] at this
                cases this
              have HCL := hid hcl
              clear hxi hxk hy hos hks hcl ho hk
              go_wp2_with fail
              go_quiet ((go_at_call 10; exact Calls.quiet_of_same ((holds_t (ht.1.fr ((Fr.refl (fun _ => False) wr).drewN _) (fun _ _ q => q))) xi y)))
              have fq : Fr (fun _ => False) wr (wr.drewN nq) := (Fr.refl (fun _ => False) wr).drewN nq
              have hbq : Below wr.heap.size wr (wr.drewN nq) := fq.below (Nat.le_refl _) (fun _ _ q => q)
              have htq := ht.below hbq (Nat.le_refl _)
              have hfq := hf.trans (hbq.mono hf.size)
              have ciq := fq.cell ci id
              have ckq := fq.cell ck id
              have cjq := fq.cell cj id
              clear ci ck cj ht hf fq hbq
              generalize wr.drewN nq = wq at *
              generalize (aget (y, xi) T).isSome = ga at *
              generalize (aget (y, xi) T).getD false = gb at *
              go_wp2_with fail
              go_quiet ((go_at_call 10; exact Calls.quiet_of_same ((holds_t (htq.1.fr ((Fr.refl (fun _ => False) wq).drewN _) (fun _ _ q => q))) xk y)))
              have fr : Fr (fun _ => False) wq (wq.drewN nq) := (Fr.refl (fun _ => False) wq).drewN nq
              have hbr : Below wq.heap.size wq (wq.drewN nq) := fr.below (Nat.le_refl _) (fun _ _ q => q)
              have htr := htq.below hbr (Nat.le_refl _)
              have hfr := hfq.trans (hbr.mono hfq.size)
              have cir := fr.cell ciq id
              have ckr := fr.cell ckq id
              clear ciq ckq cjq htq hfq fr hbr
              generalize wq.drewN nq = wz at *
              generalize (aget (y, xk) T).isSome = gc at *
              cases hne : (xi != xk)
              · go_wp2_with fail
                go_quiet (fail)
                go_wp2_with fail
                go_roundg (9 - (j + 1))
                case measure => rw [HN3.out]; omega
                case rel => exact ⟨j + 1, by go_num, by omega, by omega, rfl, htr.below (bdrewN (Below.refl _ wz) nq) (Nat.le_refl _), bdrewN hfr nq⟩
              · cases ga
                · go_wp2_with fail
                  go_quiet (fail)
                  go_wp2_with fail
                  go_roundg (9 - (j + 1))
                  case measure => rw [HN3.out]; omega
                  case rel => exact ⟨j + 1, by go_num, by omega, by omega, rfl, htr.below (bdrewN (Below.refl _ wz) nq) (Nat.le_refl _), bdrewN hfr nq⟩
                · cases gb
                  · go_wp2_with fail
                    go_quiet (fail)
                    go_wp2_with fail
                    go_roundg (9 - (j + 1))
                    case measure => rw [HN3.out]; omega
                    case rel => exact ⟨j + 1, by go_num, by omega, by omega, rfl, htr.below (bdrewN (Below.refl _ wz) nq) (Nat.le_refl _), bdrewN hfr nq⟩
                  · obtain rfl : gc = false := by
                      cases gc
                      · rfl
                      · exact absurd ⟨hne, rfl, rfl, rfl⟩ HCL.out
                    go_wp2_with fail
                    go_quiet (fail)
                    go_wp2_with fail
                    go_roundg (9 - (j + 1))
                    case measure => rw [HN3.out]; omega
                    case rel => exact ⟨j + 1, by go_num, by omega, by omega, rfl, htr.below (bdrewN (Below.refl _ wz) nq) (Nat.le_refl _), bdrewN hfr nq⟩
            · go_wp2_with fail
              all_goals
                go_roundg (9 - (k + 1))
                case measure => rw [HN2.out]; omega
                case rel => exact ⟨k + 1, by go_num, by omega, by omega, rfl, ht, hf⟩
        · go_wp2_with fail
          all_goals
            go_roundg (9 - (i + 1))
            case measure => rw [HN.out]; omega
            case rel => exact ⟨i + 1, by go_num, by omega, by omega, rfl, ht, hf⟩
    · go_wp2_with fail
      all_goals
        refine (alive_any _).mono ?_
        rintro e w3 ⟨rfl, f3⟩
        go_wp2_with fail
        go_ret
        exact ⟨rfl, hf.trans (f3.mono hf.size)⟩
end Go.Proofs.Ytgfiifhnnjammaa
