/- Walk of trothlaw14.model: the document's queue does what the plain one does. Conditions: the queue reads as DAt says; the lists lie beside it. -/
import Derived.Test.YtmckdoiepmkbbaaQdH
namespace Go.Proofs.Ytmckdoiepmkbbaa
open Go.RowKit Go.Mine Go.Proofs.YtmckdoiepmkbbaaW.PrintWords
set_option linter.unusedVariables false
set_option linter.unusedSimpArgs false
def DCallPost (F : Nat → Prop) (w : World) (b : Nat) (s : QS) (o : QOp) (e : Ending) (w' : World) : Prop :=
  ∃ v F', e = .returned (.tuple #[.int .u64 (callQ s o).1.1, v, .int .i64 (callQ s o).1.2.2]) ∧ DAt F' w' b (callQ s o).2 ∧ Grew F F' w ∧ Fr F w w' ∧ ChRow w' v (callQ s o).1.2.1 ∧ ∀ k, v.ownBlock = some k → w.heap.size ≤ k ∧ ¬ F' k
theorem DCallPost.plain {F F' : Nat → Prop} {w w1 w' : World} {b : Nat} {s : QS} {o : QOp} {a e : Int} {s' : QS} (hc : callQ s o = ((a, [], e), s')) (hk : DAt F' w' b s') (hg : Grew F F' w1) (hf : Fr F w1 w') (hw : Fr (fun _ => False) w w1) :
    DCallPost F w b s o (.returned (.tuple #[.int .u64 a, .slice none 0 0, .int .i64 e])) w' := by
  unfold DCallPost
  rw [hc]
  exact ⟨_, F', rfl, hk, fun i hi => (hg i hi).imp id (fun q => Nat.le_trans hw.size q), (hw.mono (fun _ q => q.elim)).trans hf (fun i q => .inl q), FR.nil _ _ _, fun k hk => by simp [Value.ownBlock] at hk⟩
set_option maxRecDepth 100000 in
set_option maxHeartbeats 4000000 in
theorem model_any {F : Nat → Prop} {w : World} {b : Nat} {s : QS} (h : DAt F w b s) (hok : s.Ok) (o : QOp) (hl : o.kind = 5 → ChAt w w.heap.size o.la o.l ∧ (o.l ≠ [] → Beside F o.la) ∧ o.l.length ≤ 1000)
    (hv : o.kind = 6 → UAt w w.heap.size o.va o.v ∧ (o.v ≠ [] → Beside F o.va) ∧ o.v.length ≤ 100000000000000000) :
    Calls Try.prog 23 #[.pointer (some ⟨b, 0, none⟩), .agg #[.int .i64 o.kind, .int .i64 o.work, .int .i64 o.next, .int .u64 o.val, .slice o.la o.l.length o.lc, .slice o.va o.v.length o.vc]] w (DCallPost F w b s o) := by
  have fa : Fr (fun _ => False) w (w.alloc (.cells #[.int .i64 o.kind, .int .i64 o.work, .int .i64 o.next, .int .u64 o.val, .slice o.la o.l.length o.lc, .slice o.va o.v.length o.vc] 46)) := (Fr.refl _ w).alloc _
  have ba : Below w.heap.size w (w.alloc (.cells #[.int .i64 o.kind, .int .i64 o.work, .int .i64 o.next, .int .u64 o.val, .slice o.la o.l.length o.lc, .slice o.va o.v.length o.vc] 46)) := (Below.refl _ _).alloc (Nat.le_refl _) _
  have ha := h.below ba
  have HL := hid hl
  have HV := hid hv
  have HBA := hid ba
  have HOK := hid hok
  clear hl hv h ba hok
  go_enter Try.func23, Try.ntmps23
  cases q0 : (o.kind == 0)
  · cases q1 : (o.kind == 1)
    · cases q2 : (o.kind == 2)
      · cases q3 : (o.kind == 3)
        · cases q4 : (o.kind == 4)
          · cases q5 : (o.kind == 5)
            · cases q6 : (o.kind == 6)
              · have n0 : ¬ o.kind = 0 := by simpa using q0
                have n1 : ¬ o.kind = 1 := by simpa using q1
                have n2 : ¬ o.kind = 2 := by simpa using q2
                have n3 : ¬ o.kind = 3 := by simpa using q3
                have n4 : ¬ o.kind = 4 := by simpa using q4
                have n5 : ¬ o.kind = 5 := by simpa using q5
                have n6 : ¬ o.kind = 6 := by simpa using q6
                have HC := hid (show callQ s o = _ from by unfold callQ; rw [if_neg n0, if_neg n1, if_neg n2, if_neg n3, if_neg n4, if_neg n5, if_neg n6])
                clear n0 n1 n2 n3 n4 n5 n6
                go_wp2_with fail
                (try simp only [Exit.inBlock, Exit.then]); refine bodyPost_ret (results_tmp3 rfl _ _ _) rfl ?_
                exact DCallPost.plain HC.out ha (Grew.refl _ _) (Fr.refl _ _) fa
              · have n0 : ¬ o.kind = 0 := by simpa using q0
                have n1 : ¬ o.kind = 1 := by simpa using q1
                have n2 : ¬ o.kind = 2 := by simpa using q2
                have n3 : ¬ o.kind = 3 := by simpa using q3
                have n4 : ¬ o.kind = 4 := by simpa using q4
                have n5 : ¬ o.kind = 5 := by simpa using q5
                have p6 : o.kind = 6 := by simpa using q6
                have HC := hid (show callQ s o = _ from by unfold callQ; rw [if_neg n0, if_neg n1, if_neg n2, if_neg n3, if_neg n4, if_neg n5, if_pos p6])
                have hv6 := HV.out p6
                have HT := hid (dload_any ha HOK.out.bd o.va o.v o.vc o.next ((hv6.1.below HBA.out).up HBA.out.size) hv6.2.1 hv6.2.2)
                clear n0 n1 n2 n3 n4 n5 p6 hv6
                go_wp2_with fail
                refine HT.out.mono ?_
                rintro e w1 ⟨rfl, ⟨F1, h1, g1⟩, f1⟩
                go_wp2_with fail
                (try simp only [Exit.inBlock, Exit.then]); refine bodyPost_ret (results_tmp3 rfl _ _ _) rfl ?_
                exact DCallPost.plain HC.out h1 g1 f1 fa
            · have n0 : ¬ o.kind = 0 := by simpa using q0
              have n1 : ¬ o.kind = 1 := by simpa using q1
              have n2 : ¬ o.kind = 2 := by simpa using q2
              have n3 : ¬ o.kind = 3 := by simpa using q3
              have n4 : ¬ o.kind = 4 := by simpa using q4
              have p5 : o.kind = 5 := by simpa using q5
              have HC := hid (show callQ s o = _ from by unfold callQ; rw [if_neg n0, if_neg n1, if_neg n2, if_neg n3, if_neg n4, if_pos p5])
              have hl5 := HL.out p5
              have HT := hid (drestore_any ha HOK.out o.work o.la o.l o.lc ((hl5.1.below HBA.out).up HBA.out.size) hl5.2.1 hl5.2.2)
              clear n0 n1 n2 n3 n4 p5 hl5
              go_wp2_with fail
              refine HT.out.mono ?_
              rintro e w1 ⟨rfl, ⟨F1, h1, g1⟩, f1⟩
              go_wp2_with fail
              (try simp only [Exit.inBlock, Exit.then]); refine bodyPost_ret (results_tmp3 rfl _ _ _) rfl ?_
              exact DCallPost.plain HC.out h1 g1 f1 fa
          · have n0 : ¬ o.kind = 0 := by simpa using q0
            have n1 : ¬ o.kind = 1 := by simpa using q1
            have n2 : ¬ o.kind = 2 := by simpa using q2
            have n3 : ¬ o.kind = 3 := by simpa using q3
            have p4 : o.kind = 4 := by simpa using q4
            have HC := hid (show callQ s o = _ from by unfold callQ; rw [if_neg n0, if_neg n1, if_neg n2, if_neg n3, if_pos p4])
            have HT := hid (dbackout_any ha HOK.out.bd o.work)
            clear n0 n1 n2 n3 p4
            go_wp2_with fail
            refine HT.out.mono ?_
            rintro e w1 ⟨rfl, ⟨F1, h1, g1⟩, f1⟩
            go_wp2_with fail
            (try simp only [Exit.inBlock, Exit.then]); refine bodyPost_ret (results_tmp3 rfl _ _ _) rfl ?_
            exact DCallPost.plain HC.out h1 g1 f1 fa
        · have n0 : ¬ o.kind = 0 := by simpa using q0
          have n1 : ¬ o.kind = 1 := by simpa using q1
          have n2 : ¬ o.kind = 2 := by simpa using q2
          have p3 : o.kind = 3 := by simpa using q3
          have HC := hid (show callQ s o = _ from by unfold callQ; rw [if_neg n0, if_neg n1, if_neg n2, if_pos p3])
          have HT := hid (dcommit_any ha HOK.out o.work)
          clear n0 n1 n2 p3
          go_wp2_with fail
          refine HT.out.mono ?_
          rintro e w1 ⟨rfl, ⟨F1, h1, g1⟩, f1⟩
          go_wp2_with fail
          (try simp only [Exit.inBlock, Exit.then]); refine bodyPost_ret (results_tmp3 rfl _ _ _) rfl ?_
          exact DCallPost.plain HC.out h1 g1 f1 fa
      · have n0 : ¬ o.kind = 0 := by simpa using q0
        have n1 : ¬ o.kind = 1 := by simpa using q1
        have p2 : o.kind = 2 := by simpa using q2
        have HC := hid (show callQ s o = _ from by unfold callQ; rw [if_neg n0, if_neg n1, if_pos p2])
        have HT := hid (dprepare_any ha HOK.out.bd o.work)
        clear n0 n1 p2
        go_wp2_with fail
        refine HT.out.mono ?_
        rintro e w1 ⟨v, rfl, ⟨F1, h1, g1, o1⟩, r1, f1⟩
        go_wp2_with fail
        (try simp only [Exit.inBlock, Exit.then]); refine bodyPost_ret (results_tmp3 rfl _ _ _) rfl ?_
        unfold DCallPost
        rw [HC.out]
        exact ⟨v, F1, rfl, h1, fun i hi => (g1 i hi).imp id (fun q => Nat.le_trans fa.size q), (fa.mono (fun _ q => q.elim)).trans f1 (fun i q => .inl q), r1, fun k hk => ⟨Nat.le_trans fa.size (o1 k hk).1, (o1 k hk).2⟩⟩
    · have n0 : ¬ o.kind = 0 := by simpa using q0
      have p1 : o.kind = 1 := by simpa using q1
      have HC := hid (show callQ s o = _ from by unfold callQ; rw [if_neg n0, if_pos p1])
      have HT := hid (dtake_any ha HOK.out o.work)
      clear n0 p1
      go_wp2_with fail
      refine HT.out.mono ?_
      rintro e w1 ⟨rfl, ⟨F1, h1, g1⟩, f1⟩
      go_wp2_with fail
      (try simp only [Exit.inBlock, Exit.then]); refine bodyPost_ret (results_tmp3 rfl _ _ _) rfl ?_
      exact DCallPost.plain HC.out h1 g1 f1 fa
  · have p0 : o.kind = 0 := by simpa using q0
    have HC := hid (show callQ s o = _ from by unfold callQ; rw [if_pos p0])
    have HT := hid (dput_any ha HOK.out.bd o.work o.val)
    clear  p0
    go_wp2_with fail
    refine HT.out.mono ?_
    rintro e w1 ⟨rfl, ⟨F1, h1, g1⟩, f1⟩
    go_wp2_with fail
    (try simp only [Exit.inBlock, Exit.then]); refine bodyPost_ret (results_tmp3 rfl _ _ _) rfl ?_
    exact DCallPost.plain HC.out h1 g1 f1 fa
end Go.Proofs.Ytmckdoiepmkbbaa
