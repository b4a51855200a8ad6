/- Walk of trothlaw13.model: a call does to the document's store what the plain store does. Conditions: the store reads as DsR says, it agrees with the plain store, the list reads. -/
import Derived.Test.YtekebjcknhjceaaKvDc
import Derived.Test.YtekebjcknhjceaaKvQ
namespace Go.Proofs.Ytekebjcknhjceaa
open Go.RowKit Go.Mine Go.Proofs.YtekebjcknhjceaaW.PrintWords
set_option linter.unusedVariables false
set_option linter.unusedSimpArgs false
def DCall (F : Nat → Prop) (w : World) (b1 : Nat) (L : List (Int × Int)) (s : KS) (o : KOp) (e : Ending) (w' : World) : Prop :=
  ∃ v F' I' pv' qv' tv', e = .returned (.tuple #[.int .u64 (callK s o).1.1, .bool (callK s o).1.2.1, v, .int .i64 (callK s o).1.2.2.2]) ∧ DsR F' w' b1 (callL L s o) I' (callK s o).2.lk pv' qv' tv' ∧ (callK s o).2.ws = wsOf I' ∧ Grew F F' w ∧ Fr F w w' ∧ ChRow w' v (callK s o).1.2.2.1 ∧ ∀ k, v.ownBlock = some k → w.heap.size ≤ k ∧ ¬ F' k
/-- A call whose list is nil. -/
theorem DCall.plain {F F' : Nat → Prop} {w w1 w' : World} {b1 : Nat} {L L' : List (Int × Int)} {s : KS} {o : KOp} {a : Int} {b : Bool} {e : Int} {s' : KS} {I' : List WI} {pv' qv' tv' : Value} (hc : callK s o = ((a, b, [], e), s')) (hL : callL L s o = L') (hd : DsR F' w' b1 L' I' s'.lk pv' qv' tv') (hi : s'.ws = wsOf I') (hg : Grew F F' w1) (hf : Fr F w1 w') (hw : Fr (fun _ => False) w w1) :
    DCall F w b1 L s o (.returned (.tuple #[.int .u64 a, .bool b, .slice none 0 0, .int .i64 e])) w' := by
  unfold DCall
  rw [hc, hL]
  exact ⟨_, F', I', pv', qv', tv', rfl, hd, hi, fun i hi => (hg i hi).imp id (fun q => Nat.le_trans hw.size q), (hw.mono (fun _ q => q.elim)).trans hf (fun i q => .inl q), ChRow.none_ _, fun k hk => by simp [Value.ownBlock] at hk⟩

set_option maxRecDepth 100000 in
set_option maxHeartbeats 4000000 in
theorem model_any {F : Nat → Prop} {w : World} {b1 : Nat} {L : List (Int × Int)} {I : List WI} {pv qv tv : Value} {s : KS} (h : DsR F w b1 L I s.lk pv qv tv) (hws : s.ws = wsOf I) (hI : I.length ≤ 900) (hag : Agree L s) (hok : s.Ok) (o : KOp) (hl : ChAt w w.heap.size o.la o.l) (hA : o.l ≠ [] → Beside F w o.la) (hn6 : o.kind = 6 → o.l.length ≤ 100000) (hc : o.l.length ≤ o.lc) :
    Calls Try.prog 20 #[.pointer (some ⟨b1, 0, none⟩), .agg #[.int .i64 o.kind, .int .i64 o.work, .int .i64 o.key, .int .u64 o.val, .slice o.la o.l.length o.lc]] w (DCall F w b1 L s o) := by
  have hL := hag.len
  have fa : Fr (fun _ => False) w (w.alloc (.cells #[.int .i64 o.kind, .int .i64 o.work, .int .i64 o.key, .int .u64 o.val, .slice o.la o.l.length o.lc] 51)) := (Fr.refl _ w).alloc _
  have ba : Below w.heap.size w (w.alloc (.cells #[.int .i64 o.kind, .int .i64 o.work, .int .i64 o.key, .int .u64 o.val, .slice o.la o.l.length o.lc] 51)) := (Below.refl _ _).alloc (Nat.le_refl _) _
  have hbx : (w.alloc (.cells #[.int .i64 o.kind, .int .i64 o.work, .int .i64 o.key, .int .u64 o.val, .slice o.la o.l.length o.lc] 51)).heap[w.heap.size]? = some (.cells #[.int .i64 o.kind, .int .i64 o.work, .int .i64 o.key, .int .u64 o.val, .slice o.la o.l.length o.lc] 51 (0, 0)) := (MapKept.heap_alloc w _).1
  have ha := h.fr fa (fun _ _ => id)
  have hla := (hl.below ba).up ba.size
  have hAa : o.l ≠ [] → Beside F (w.alloc (.cells #[.int .i64 o.kind, .int .i64 o.work, .int .i64 o.key, .int .u64 o.val, .slice o.la o.l.length o.lc] 51)) o.la := fun hne b off e => ⟨(hA hne b off e).1, Nat.lt_of_lt_of_le (hA hne b off e).2 ba.size⟩
  have k0 : (w.alloc (.cells #[.int .i64 o.kind, .int .i64 o.work, .int .i64 o.key, .int .u64 o.val, .slice o.la o.l.length o.lc] 51)).cell? ⟨w.heap.size, 0, none⟩ = some (.int .i64 o.kind) := by rw [cell_of_row (w.alloc (.cells #[.int .i64 o.kind, .int .i64 o.work, .int .i64 o.key, .int .u64 o.val, .slice o.la o.l.length o.lc] 51)) _ 0 _ _ _ hbx]; rfl
  have k1 : (w.alloc (.cells #[.int .i64 o.kind, .int .i64 o.work, .int .i64 o.key, .int .u64 o.val, .slice o.la o.l.length o.lc] 51)).cell? ⟨w.heap.size, 1, none⟩ = some (.int .i64 o.work) := by rw [cell_of_row (w.alloc (.cells #[.int .i64 o.kind, .int .i64 o.work, .int .i64 o.key, .int .u64 o.val, .slice o.la o.l.length o.lc] 51)) _ 1 _ _ _ hbx]; rfl
  have k2 : (w.alloc (.cells #[.int .i64 o.kind, .int .i64 o.work, .int .i64 o.key, .int .u64 o.val, .slice o.la o.l.length o.lc] 51)).cell? ⟨w.heap.size, 2, none⟩ = some (.int .i64 o.key) := by rw [cell_of_row (w.alloc (.cells #[.int .i64 o.kind, .int .i64 o.work, .int .i64 o.key, .int .u64 o.val, .slice o.la o.l.length o.lc] 51)) _ 2 _ _ _ hbx]; rfl
  have k3 : (w.alloc (.cells #[.int .i64 o.kind, .int .i64 o.work, .int .i64 o.key, .int .u64 o.val, .slice o.la o.l.length o.lc] 51)).cell? ⟨w.heap.size, 3, none⟩ = some (.int .u64 o.val) := by rw [cell_of_row (w.alloc (.cells #[.int .i64 o.kind, .int .i64 o.work, .int .i64 o.key, .int .u64 o.val, .slice o.la o.l.length o.lc] 51)) _ 3 _ _ _ hbx]; rfl
  have k4 : (w.alloc (.cells #[.int .i64 o.kind, .int .i64 o.work, .int .i64 o.key, .int .u64 o.val, .slice o.la o.l.length o.lc] 51)).cell? ⟨w.heap.size, 4, none⟩ = some (.slice o.la o.l.length o.lc) := by rw [cell_of_row (w.alloc (.cells #[.int .i64 o.kind, .int .i64 o.work, .int .i64 o.key, .int .u64 o.val, .slice o.la o.l.length o.lc] 51)) _ 4 _ _ _ hbx]; rfl
  have HAG := hid hag
  clear hl hbx ba h hA hag
  go_enter Try.func20, Try.ntmps20
  cases q0 : (o.kind == 0)
  · cases q1 : (o.kind == 1)
    · cases q2 : (o.kind == 2)
      · cases q3 : (o.kind == 3)
        · cases q4 : (o.kind == 4)
          · cases q5 : (o.kind == 5)
            · cases q6 : (o.kind == 6)
              · have n0 : ¬ o.kind = 0 := by simpa using q0
                have n1 : ¬ o.kind = 1 := by simpa using q1
                have n2 : ¬ o.kind = 2 := by simpa using q2
                have n3 : ¬ o.kind = 3 := by simpa using q3
                have n4 : ¬ o.kind = 4 := by simpa using q4
                have n5 : ¬ o.kind = 5 := by simpa using q5
                have n6 : ¬ o.kind = 6 := by simpa using q6
                have HC := hid (show callK s o = _ from by unfold callK; rw [if_neg n0, if_neg n1, if_neg n2, if_neg n3, if_neg n4, if_neg n5, if_neg n6])
                have HL := hid (show callL L s o = L from by unfold callL; rw [if_neg n4])
                clear n0 n1 n2 n3 n4 n5 n6 hla hAa
                go_wp2_with fail
                (try simp only [Exit.inBlock, Exit.then]); refine bodyPost_ret (results_tmp4 rfl _ _ _) rfl ?_
                exact DCall.plain HC.out HL.out ha hws (Grew.refl _ _) (Fr.refl _ _) fa
              · have n0 : ¬ o.kind = 0 := by simpa using q0
                have n1 : ¬ o.kind = 1 := by simpa using q1
                have n2 : ¬ o.kind = 2 := by simpa using q2
                have n3 : ¬ o.kind = 3 := by simpa using q3
                have n4 : ¬ o.kind = 4 := by simpa using q4
                have n5 : ¬ o.kind = 5 := by simpa using q5
                have p6 : o.kind = 6 := by simpa using q6
                have HC := hid (show callK s o = _ from by unfold callK; rw [if_neg n0, if_neg n1, if_neg n2, if_neg n3, if_neg n4, if_neg n5, if_pos p6])
                have HL := hid (show callL L s o = L from by unfold callL; rw [if_neg n4])
                have hn := hn6 p6
                have HT := hid (drestore_any ha hws hI hok o.work o.la o.l o.lc hla hAa hn hc)
                clear n0 n1 n2 n3 n4 n5 p6 hla hAa
                go_wp2_with fail
                refine HT.out.mono ?_
                rintro e w1 ⟨rfl, F1, I1, pv1, qv1, tv1, h1, g1, i1, f1⟩
                go_wp2_with fail
                (try simp only [Exit.inBlock, Exit.then]); refine bodyPost_ret (results_tmp4 rfl _ _ _) rfl ?_
                exact DCall.plain HC.out HL.out h1 i1 g1 f1 fa
            · have n0 : ¬ o.kind = 0 := by simpa using q0
              have n1 : ¬ o.kind = 1 := by simpa using q1
              have n2 : ¬ o.kind = 2 := by simpa using q2
              have n3 : ¬ o.kind = 3 := by simpa using q3
              have n4 : ¬ o.kind = 4 := by simpa using q4
              have p5 : o.kind = 5 := by simpa using q5
              have HC := hid (show callK s o = _ from by unfold callK; rw [if_neg n0, if_neg n1, if_neg n2, if_neg n3, if_neg n4, if_pos p5])
              have HL := hid (show callL L s o = L from by unfold callL; rw [if_neg n4])
              have HT := hid (dbackout_any ha hws (by omega) hok.rk o.work)
              clear n0 n1 n2 n3 n4 p5 hla hAa
              go_wp2_with fail
              refine HT.out.mono ?_
              rintro e w1 ⟨rfl, F1, I1, pv1, qv1, tv1, h1, g1, i1, f1⟩
              go_wp2_with fail
              (try simp only [Exit.inBlock, Exit.then]); refine bodyPost_ret (results_tmp4 rfl _ _ _) rfl ?_
              exact DCall.plain HC.out HL.out h1 i1 g1 f1 fa
          · have n0 : ¬ o.kind = 0 := by simpa using q0
            have n1 : ¬ o.kind = 1 := by simpa using q1
            have n2 : ¬ o.kind = 2 := by simpa using q2
            have n3 : ¬ o.kind = 3 := by simpa using q3
            have p4 : o.kind = 4 := by simpa using q4
            have HC := hid (show callK s o = _ from by unfold callK; rw [if_neg n0, if_neg n1, if_neg n2, if_neg n3, if_pos p4])
            have HL := hid (show callL L s o = _ from by unfold callL; rw [if_pos p4])
            have HT := hid (dcommit_any ha hws hI (by omega) hok o.work)
            clear n0 n1 n2 n3 p4 hla hAa
            go_wp2_with fail
            refine HT.out.mono ?_
            rintro e w1 ⟨rfl, F1, I1, pv1, qv1, tv1, h1, g1, i1, f1⟩
            go_wp2_with fail
            (try simp only [Exit.inBlock, Exit.then]); refine bodyPost_ret (results_tmp4 rfl _ _ _) rfl ?_
            exact DCall.plain HC.out HL.out h1 i1 g1 f1 fa
        · have n0 : ¬ o.kind = 0 := by simpa using q0
          have n1 : ¬ o.kind = 1 := by simpa using q1
          have n2 : ¬ o.kind = 2 := by simpa using q2
          have p3 : o.kind = 3 := by simpa using q3
          have HC := hid (show callK s o = _ from by unfold callK; rw [if_neg n0, if_neg n1, if_neg n2, if_pos p3])
          have HL := hid (show callL L s o = L from by unfold callL; rw [if_neg (by omega)])
          have HT := hid (dprepare_any ha hws hI hok o.work)
          clear n0 n1 n2 p3 hla hAa
          go_wp2_with fail
          refine HT.out.mono ?_
          rintro e w1 ⟨v, rfl, ⟨F1, I1, qv1, tv1, h1, g1, i1, o1⟩, r1, f1⟩
          go_wp2_with fail
          (try simp only [Exit.inBlock, Exit.then]); refine bodyPost_ret (results_tmp4 rfl _ _ _) rfl ?_
          unfold DCall
          rw [HC.out, HL.out]
          exact ⟨v, F1, I1, pv, qv1, tv1, rfl, h1, i1, fun i hi => (g1 i hi).imp id (fun q => Nat.le_trans fa.size q), (fa.mono (fun _ q => q.elim)).trans f1 (fun i q => .inl q), r1, fun k hk => ⟨Nat.le_trans fa.size (o1 k hk).1, (o1 k hk).2⟩⟩
      · have n0 : ¬ o.kind = 0 := by simpa using q0
        have n1 : ¬ o.kind = 1 := by simpa using q1
        have p2 : o.kind = 2 := by simpa using q2
        have HC := hid (show callK s o = _ from by unfold callK; rw [if_neg n0, if_neg n1, if_pos p2])
        have HL := hid (show callL L s o = L from by unfold callL; rw [if_neg (by omega)])
        have HT := hid (dchange_any ha hws hI hok o.work ⟨2, o.key, 0⟩)
        clear n0 n1 p2 hla hAa
        go_wp2_with fail
        refine HT.out.mono ?_
        rintro e w1 ⟨rfl, F1, I1, qv1, tv1, h1, g1, i1, f1⟩
        go_wp2_with fail
        (try simp only [Exit.inBlock, Exit.then]); refine bodyPost_ret (results_tmp4 rfl _ _ _) rfl ?_
        exact DCall.plain HC.out HL.out h1 i1 g1 f1 fa
    · have n0 : ¬ o.kind = 0 := by simpa using q0
      have p1 : o.kind = 1 := by simpa using q1
      have HC := hid (show callK s o = _ from by unfold callK; rw [if_neg n0, if_pos p1])
      have HL := hid (show callL L s o = L from by unfold callL; rw [if_neg (by omega)])
      have HT := hid (dchange_any ha hws hI hok o.work ⟨1, o.key, o.val⟩)
      clear n0 p1 hla hAa
      go_wp2_with fail
      refine HT.out.mono ?_
      rintro e w1 ⟨rfl, F1, I1, qv1, tv1, h1, g1, i1, f1⟩
      go_wp2_with fail
      (try simp only [Exit.inBlock, Exit.then]); refine bodyPost_ret (results_tmp4 rfl _ _ _) rfl ?_
      exact DCall.plain HC.out HL.out h1 i1 g1 f1 fa
  · have p0 : o.kind = 0 := by simpa using q0
    have HC := hid (show callK s o = _ from by unfold callK; rw [if_pos p0])
    have HL := hid (show callL L s o = L from by unfold callL; rw [if_neg (by omega)])
    have HT := hid (dget_any ha hws hI (by omega) hok o.work o.key)
    clear p0 hla hAa
    go_wp2_with fail
    have HG := hid (HAG.out.get o.work o.key)
    refine HT.out.mono ?_
    rintro e w1 ⟨rfl, F1, I1, qv1, tv1, h1, g1, i1, f1⟩
    rw [HG.out]
    go_wp2_with fail
    (try simp only [Exit.inBlock, Exit.then]); refine bodyPost_ret (results_tmp4 rfl _ _ _) rfl ?_
    exact DCall.plain HC.out HL.out (by rw [Go.Mine.get_st]; exact h1) (by rw [Go.Mine.get_st]; exact i1) g1 f1 fa
end Go.Proofs.Ytekebjcknhjceaa
