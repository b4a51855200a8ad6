/- Walk of (*lock.Table).Held: it tells the keys that an owner holds, each once, in order, in a slice of the call's own. Condition: the table reads as a list of at most a million locks. -/
import Derived.Test.YtgfiifhnnjammaaLock4
import Derived.Test.YtgfiifhnnjammaaLockS
import Derived.Test.YtgfiifhnnjammaaWWords
import Derived.Shelf.Slices.In.SortNone
namespace Go.Proofs.Ytgfiifhnnjammaa
open Go.RowKit Go.Mine Go.Proofs.YtgfiifhnnjammaaW.PrintWords
open Go.ChangeMaps (setBlock)
set_option linter.unusedVariables false
set_option linter.unusedSimpArgs false

theorem sort_none (p : Option Addr) (cap : Nat) (w : World) : Calls Try.prog 24 #[.slice p 0 cap] w fun e w' => e = .returned (.tuple #[]) ∧ w' = w :=
  calls_of_every_depth fun D => AnyS.slices_Sort_int_none_in laysSort D p cap w
theorem info3 : (Try.prog.info? 3).map (fun i => (i.zero, i.size, i.bytes)) = some (some (.int .i64 0), 1, 8) := by kernel_rfl
def keysL (o : Int) (L : Tab) : List Int := (L.filter (own o)).map (fun e => e.1.1)
def sorted (l : List Int) : List Int := l.mergeSort fun x y => decide (x ≤ y)
theorem sorted_perm (l : List Int) : (sorted l).Perm l := List.mergeSort_perm _ _
theorem sorted_pw (l : List Int) : (sorted l).Pairwise (fun a b => a ≤ b) := by
  have h := List.pairwise_mergeSort (le := fun x y : Int => decide (x ≤ y)) (fun a b c h1 h2 => by simp only [decide_eq_true_eq] at *; omega) (fun a b => by simp only [Bool.or_eq_true, decide_eq_true_eq]; omega) l
  exact h.imp (fun h => by simpa using h)
theorem sorted_unique {l l' : List Int} (hp : l.Perm l') (h : l.Pairwise (fun a b => a ≤ b)) (h' : l'.Pairwise (fun a b => a ≤ b)) : l = l' :=
  hp.eq_of_pairwise (fun a b _ _ h1 h2 => by omega) h h'
theorem sorted_eq {l l' : List Int} (hp : l.Perm l') : sorted l = sorted l' :=
  sorted_unique ((sorted_perm l).trans (hp.trans (sorted_perm l').symm)) (sorted_pw l) (sorted_pw l')

theorem keys_keep {o : Int} {l1 l2 : Tab} {x : (Int × Int) × Bool × Nat} (h : own o x = false) : keysL o (l1 ++ x :: l2) = keysL o (l1 ++ l2) := by
  simp [keysL, List.filter_append, List.filter_cons, h]
theorem keys_take {o : Int} {l1 l2 : Tab} {x : (Int × Int) × Bool × Nat} (h : own o x = true) : (x.1.1 :: keysL o (l1 ++ l2)).Perm (keysL o (l1 ++ x :: l2)) := by
  simp only [keysL, List.filter_append, List.filter_cons, h, if_true, List.map_append, List.map_cons]
  exact List.perm_middle.symm

theorem own_iter_ne {w : World} {base : Nat} {e : TypeId} {size n : Nat} {v : Value} {xs : List Value} {r b c : Nat} {L left : Tab} (h : w.ownsRow base e size v n xs) (hi : IterAt w r b c L left) : v.ownBlock ≠ some r := fun hk => by
  obtain ⟨cells, hc⟩ := own_typed h r hk
  obtain ⟨seen, h1, _⟩ := hi
  rw [h1] at hc
  cases hc
theorem own_iter {w w' : World} {base : Nat} {e : TypeId} {size n : Nat} {v : Value} {xs : List Value} {r b c : Nat} {L left : Tab} (h : w.ownsRow base e size v n xs) (hi : IterAt w r b c L left) (f : Fr (· = r) w w') : w'.ownsRow base e size v n xs :=
  own_move h (fun k hk => f.block k (own_lt h k hk) (fun he => own_iter_ne h hi (he ▸ hk)))

def HeldPost (ks : List Int) (w : World) (e : Ending) (w' : World) : Prop :=
  ∃ v, e = .returned v ∧ w'.ownsRow w.heap.size 3 1 v (sorted ks).length (nums .i64 (sorted ks)) ∧ Below w.heap.size w w'

attribute [local go_sem] eK2 in
set_option maxHeartbeats 1000000 in
theorem held_some (b0 off : Nat) (b c : Nat) (L : Tab) (o : Int) (w : World) (hc0 : w.cell? ⟨b0, off, none⟩ = some (.map (some b))) (hm : MapAt eK2 Value.bool w b L c) (hsz : L.length ≤ 1000000) :
    Calls Try.prog 20 #[.pointer (some ⟨b0, off, none⟩), .int .i64 o] w (HeldPost (keysL o L) w) := by
  have hb0 : b0 < w.heap.size := World.block_lt_of_cell? _ _ hc0
  have hbl := hm.lt
  go_enter Try.func20, Try.ntmps20
  go_wp2_with (at_range; refine wl_range rfl rfl Try.underlying47 rfl hm w.heap.size rfl ?_; intro w2 hi2 f2 s2)
  go_frame
  go_loopg [5] (L.length + 1) (fun n v wr => ∃ left ss, n = left.length + 1 ∧ MapAt eK2 Value.bool wr b L c ∧ IterAt wr w.heap.size b c L left ∧ wr.ownsRow w.heap.size 3 1 v ss.length (nums .i64 ss) ∧ (ss ++ keysL o left).Perm (keysL o L) ∧ Below w.heap.size w wr ∧ ss.length + left.length ≤ L.length)
  case atStart => exact ⟨L, [], rfl, hm.fr f2 id, hi2, own_nil _ _ _ _, List.Perm.refl _, f2.below (Nat.le_refl _) (fun _ _ => id), by simp⟩
  case round =>
    obtain ⟨left, ss, hn, hmr, hir, hown, hperm, hb, hlen⟩ := hrel
    have HN := hid hn
    have HP := hid hperm
    have HO := hid hown
    have HL := hid hlen
    clear hn hperm hown hlen
    go_wp2_with (at_next; refine wl_next2 rfl rfl rfl hmr hir (fun hnil => ?_) (fun k' a' st l1 l2 hl w3 hxL hm3 hi3 hen f3 s3 => ?_))
    · refine stop ?_
      have h0 := hnil.out
      subst h0
      have hp : ss.Perm (keysL o L) := by simpa [keysL] using HP.out
      have he := sorted_eq hp
      have hsl : (sorted ss).length = ss.length := (sorted_perm ss).length_eq
      have hll := HL.out
      rcases HO.out.2 with ⟨hv, h0⟩ | ⟨g, cap, cur, hv, hg, hh, h1, h2, h3, h4⟩
      · subst hv
        have hss : ss = [] := by simpa [nums] using h0
        subst hss
        have HE := hid he
        clear he hp hsl hll h0
        go_wp2_with fail
        refine (sort_none _ _ _).mono ?_
        rintro e w4 ⟨rfl, rfl⟩
        go_wp2_with fail
        go_ret
        refine ⟨.slice none 0 0, rfl, ?_, hb⟩
        rw [← HE.out, show sorted [] = [] from by simp [sorted]]
        exact own_nil _ _ _ _
      · subst hv
        have HH := hid hh
        have H4 := hid h4
        have HE := hid he
        clear he hp hh h4
        go_wp2_with fail
        refine (sort_int g 0 cap ss wr (holds_of_blockI HH.out (by simpa [nums] using H4.out)) (Array.getElem?_eq_some_iff.1 HH.out).1 (by omega)).mono ?_
        rintro e w4 ⟨rfl, nn, os, rfl⟩
        have hr := ownsRow_sortedI (n := nn) (os := os) (ts := sorted ss) hsl hg HH.out h1 h2 h3
        have hgr := grownBy_sortedI (w := wr) (g := g) (n := nn) (os := os) (sorted ss).toArray
        change wr.grownBy (Sort.grow (Sort.putRow (Value.int .i64) (Sort.ahead wr nn) g 0 (sorted ss).toArray) os) (some g) at hgr
        change (Sort.grow (Sort.putRow (Value.int .i64) (Sort.ahead wr nn) g 0 (sorted ss).toArray) os).ownsRow _ _ _ _ _ _ at hr
        rw [show (ss.mergeSort fun x y => decide (x ≤ y)) = sorted ss from rfl]
        generalize Sort.grow (Sort.putRow (Value.int .i64) (Sort.ahead wr nn) g 0 (sorted ss).toArray) os = w4 at hr hgr ⊢
        go_wp2_with fail
        go_ret
        refine ⟨.slice (some ⟨g, 0, none⟩) ss.length cap, rfl, ?_, hb.grown hgr hb.size (fun j hj => by cases hj; exact hg)⟩
        rw [← HE.out, hsl]
        exact hr
    · refine stop ?_
      have hL := hl.out
      subst hL
      have hb3 : Below w.heap.size w w3 := hb.trans (f3.below hb.size (fun k hk => by omega))
      have ho3 := own_iter HO.out hir f3
      cases ho : (k'.2 == o)
      · go_wp2_with fail
        go_roundg ((l1 ++ l2).length + 1)
        case measure => rw [HN.out]; simp
        case rel =>
          refine ⟨_, ss, rfl, hm3.fr ((Fr.refl (fun _ => False) w3).alloc _) id, hi3.fr ((Fr.refl (fun _ => False) w3).alloc _) id, ?_, ?_, below_alloc hb3 _, ?_⟩
          · exact pw_own_below ho3 ((Below.refl _ _).alloc (Nat.le_refl _) _)
          · rw [← keys_keep (x := (k', a', st)) (by simpa only [own] using ho)]; exact HP.out
          · have := HL.out; simp at this ⊢; omega
      · have hb4 : Below w.heap.size w (w3.alloc (.cells #[.int .i64 k'.1, .int .i64 k'.2] 53)) := below_alloc hb3 _
        have ho4 : (w3.alloc (.cells #[.int .i64 k'.1, .int .i64 k'.2] 53)).ownsRow w.heap.size 3 1 u5 ss.length (nums .i64 ss) := pw_own_below ho3 ((Below.refl _ _).alloc (Nat.le_refl _) _)
        have hll := HL.out
        have HW := hid (show (w3.alloc (.cells #[.int .i64 k'.1, .int .i64 k'.2] 53)).heap.size = w3.heap.size + 1 by simp)
        go_wp2_with (at_builtin; go_loud (refine print_append_num w.heap.size rfl (.tmp 22) (.tmp 25) 23 3 .i64 8 rfl Try.underlying23 info3 (by decide) u5 ss k'.1 rfl (by rw [HW.out]; rfl) ho4 hb4 hb4.size (by simp at hll; omega) ?_); intro v5 w5 ho5 hb5 hg5 hat5)
        have f5 := ((Fr.refl (fun k => u5.ownBlock = some k) w3).alloc (.cells #[.int .i64 k'.1, .int .i64 k'.2] 53)).trans (Fr.of_grown hg5) (fun i hi => .inl hi)
        have hub : u5.ownBlock ≠ some b := fun hk => by
          obtain ⟨cells, hc⟩ := own_typed ho3 b hk
          rw [hm3.heap] at hc
          cases hc
        go_roundg ((l1 ++ l2).length + 1)
        case measure => rw [HN.out]; simp
        case rel =>
          refine ⟨_, ss ++ [k'.1], rfl, hm3.fr f5 hub, hi3.fr f5 (own_iter_ne ho3 hi3), ho5, ?_, hb5, ?_⟩
          · have := keys_take (l1 := l1) (l2 := l2) (x := (k', a', st)) (by simpa only [own] using ho)
            rw [List.append_assoc]
            exact (List.Perm.append_left ss this).trans HP.out
          · simp at hll ⊢; omega
end Go.Proofs.Ytgfiifhnnjammaa
