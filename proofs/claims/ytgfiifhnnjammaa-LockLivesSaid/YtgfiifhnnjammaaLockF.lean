/- Held over the plain list of locks; walk of trothlaw12.LockFrees: it answers true. Condition: the arguments lie in memory as their lists say. -/
import Derived.Test.YtgfiifhnnjammaaLockH
import Derived.Test.YtgfiifhnnjammaaLock8
namespace Go.Proofs.Ytgfiifhnnjammaa
open Go.RowKit Go.Mine Go.Proofs.YtgfiifhnnjammaaW.PrintWords
set_option linter.unusedVariables false
set_option linter.unusedSimpArgs false

def keysA (o : Int) (A : LTab) : List Int := (A.filter (ownA o)).map (fun e => e.1.1)
theorem keys_kv (o : Int) (L : Tab) : keysL o L = keysA o (kv L) := by
  unfold keysL keysA
  rw [← kv_filter (ownA o) L]
  simp only [kv, List.map_map]
  rfl

set_option maxHeartbeats 400000 in
theorem held_none (b0 off : Nat) (o : Int) (w : World) (hc0 : w.cell? ⟨b0, off, none⟩ = some (.map none)) :
    Calls Try.prog 20 #[.pointer (some ⟨b0, off, none⟩), .int .i64 o] w (HeldPost [] w) := by
  have hrn := run_range_nil Try.underlying47 w
  go_enter Try.func20, Try.ntmps20
  go_wp2_with fail
  refine wp_loop_once ?_
  go_wp2_with (at_next; refine wl_next_nil rfl rfl (r := w.heap.size) rfl (by exact heap_last _ _ rfl) ?_)
  refine stop ?_
  go_wp2_with fail
  refine (sort_none _ _ _).mono ?_
  rintro e w4 ⟨rfl, rfl⟩
  go_wp2_with fail
  go_ret
  refine ⟨.slice none 0 0, rfl, ?_, (Below.refl _ _).alloc (Nat.le_refl _) _⟩
  rw [show sorted [] = [] from by simp [sorted]]
  exact own_nil _ _ _ _

theorem held_A {b0 off : Nat} {cs : Array Value} {T : TypeId} {F : Nat → Prop} {A : LTab} {w : World} (h : TabA w b0 off cs T F A) (hr : A.length ≤ 1000000) (o : Int) :
    Calls Try.prog 20 #[.pointer (some ⟨b0, off, none⟩), .int .i64 o] w (HeldPost (keysA o A) w) := by
  obtain ⟨L, rfl, ⟨mo, h0, h1, hm, hF⟩⟩ := h
  have hc0 := TabAt.cell (F := F) (L := L) h0 h1
  cases mo with
  | none =>
    have : L = [] := hm
    subst this
    exact held_none b0 off o w hc0
  | some b =>
    obtain ⟨c, hm⟩ := hm
    rw [← keys_kv]
    exact held_some b0 off b c L o w hc0 hm (by rw [← kv_length]; exact hr)
theorem held_o {B : Nat} {w : World} {b0 : Nat} {A : LTab} (h : OT B w b0 A) (hr : A.length ≤ 1000000) (o : Int) :
    Calls Try.prog 20 #[.pointer (some ⟨b0, 0, none⟩), .int .i64 o] w fun e w' => (∃ v, e = .returned v ∧ w'.ownsRow w.heap.size 3 1 v (sorted (keysA o A)).length (nums .i64 (sorted (keysA o A)))) ∧ OT B w' b0 A ∧ Below w.heap.size w w' := by
  obtain ⟨hF, hb, mo, ht⟩ := h.1
  refine (held_A ht hr o).mono ?_
  rintro e w' ⟨v, he, hv, hbl⟩
  exact ⟨⟨v, he, hv⟩, h.below hbl (Nat.le_refl _), hbl⟩

/-! ### A row of ops of the call's own -/
abbrev OpRow (w : World) (base : Nat) (v : Value) (l : List OpT) : Prop := OwnRow (fun (x : OpT) cs => cs = encOp x) 40 4 w base v l
theorem info40 : (Try.prog.info? 40).map (fun i => (i.zero, i.size, i.bytes)) = some (some (.agg #[.int .i64 0, .int .i64 0, .int .i64 0, .bool false]), 4, 32) := by kernel_rfl
theorem opsAt_own {w : World} {base : Nat} {v : Value} {l : List OpT} (h : OpRow w base v l) : ∃ A c, v = .slice A l.length c ∧ OpsAt w w.heap.size A l := by
  obtain ⟨inner, ho, hr⟩ := h
  rcases ho.2 with ⟨hv, h0⟩ | ⟨g, cap, cur, hv, hg, hh, h1, h2, h3, h4⟩
  · have hl : l = [] := by
      exact List.eq_nil_of_length_eq_zero h0
    subst hl
    exact ⟨none, 0, hv, fun i x hx => by simp at hx⟩
  · refine ⟨_, cap, hv, fun i x hx => ⟨g, 0, rfl, (Array.getElem?_eq_some_iff.1 hh).1, fun j u hu => ?_⟩⟩
    have h5 : (inner.drop (i * 4)).take 4 = encOp x := hr.2 i x hx
    have hj : j < 4 := by have := (List.getElem?_eq_some_iff.1 hu).1; simpa [encOp] using this
    have h6 : inner[i * 4 + j]? = some u := by
      rw [← h5, List.getElem?_take_of_lt hj, List.getElem?_drop] at hu
      exact hu
    have := ho.cells (g := g) (by rw [hv]; simp [Value.ownBlock]) _ u h6
    rw [add_plain] at this
    rw [Nat.zero_add]
    exact this

/-! ### Owners -/
theorem own_put {k : Int × Int} {v : Bool} {A : LTab} {p : Int → Prop} (h : ∀ e ∈ A, p e.1.2) (hk : p k.2) : ∀ e ∈ aput k v A, p e.1.2 := by
  intro e he
  rcases mem_aput he with rfl | ⟨he, _⟩
  · exact hk
  · exact h e he
theorem own_step {A : LTab} {x : OpT} {p : Int → Prop} (h : ∀ e ∈ A, p e.1.2) (hx : p x.owner) : ∀ e ∈ stepA A x, p e.1.2 := by
  unfold stepA
  split
  · unfold takeA
    split
    · exact h
    · split
      · exact h
      · exact own_put (p := p) h hx
  · intro e he
    exact h e (List.mem_filter.1 he).1
theorem own_steps {p : Int → Prop} : ∀ (l : List OpT) {A : LTab}, (∀ e ∈ A, p e.1.2) → (∀ x ∈ l, p x.owner) → ∀ e ∈ l.foldl stepA A, p e.1.2
  | [], _, h, _ => h
  | x :: xs, _, h, hx => own_steps xs (own_step h (hx x (by simp))) (fun y hy => hx y (by simp [hy]))
def ownOf (one two : Int) (l : List OpT) : List OpT := l.filter (fun x => x.owner == one || x.owner == two)
theorem ownOf_snoc (one two : Int) (l : List OpT) (x : OpT) : ownOf one two (l ++ [x]) = if (x.owner == one || x.owner == two) = true then ownOf one two l ++ [x] else ownOf one two l := by
  unfold ownOf
  rw [List.filter_append, List.filter_cons]
  split <;> simp
theorem own_play (one two : Int) (l : List OpT) : ∀ e ∈ playA (ownOf one two l), e.1.2 = one ∨ e.1.2 = two := by
  refine own_steps (p := fun o => o = one ∨ o = two) _ (fun e he => by cases he) (fun x hx => ?_)
  have := (List.mem_filter.1 (List.mem_of_mem_take hx)).2
  simpa using this
theorem freed {A : LTab} {one two key : Int} {al : Bool} (h : ∀ e ∈ A, e.1.2 = one ∨ e.1.2 = two) (hne : one ≠ two) :
    ((takeA (dropA one A) two key al).1 = 0 ∧ (aget (key, two) (takeA (dropA one A) two key al).2).isSome = true ∨ (takeA (dropA one A) two key al).1 = 5) ∧
      aget (key, one) (takeA (dropA one A) two key al).2 = none ∧ keysA one (takeA (dropA one A) two key al).2 = [] := by
  have h1 : ∀ e ∈ dropA one A, e.1.2 = two := by
    intro e he
    have := List.mem_filter.1 he
    rcases h e this.1 with h | h
    · simp [ownA, h] at this
    · exact h
  generalize dropA one A = D at h1 ⊢
  have hno : D.any (confA two key al ((aget (key, two) D).getD false)) = false := by
    rw [List.any_eq_false]
    intro e he hc
    simp [confA, h1 e he] at hc
  have h2 : ∀ e ∈ (takeA D two key al).2, e.1.2 = two := by
    unfold takeA
    rw [if_neg (by simp [hno])]
    split
    · exact h1
    · exact own_put (p := fun o => o = two) h1 rfl
  refine ⟨?_, ?_, ?_⟩
  · unfold takeA
    rw [if_neg (by simp [hno])]
    split
    · exact .inr rfl
    · refine .inl ⟨rfl, ?_⟩
      have := mem_aput_self (key, two) ((aget (key, two) D).getD false || al) D
      cases hg : aget (key, two) (aput (key, two) ((aget (key, two) D).getD false || al) D) with
      | some _ => rfl
      | none => rw [aget_none] at hg; exact absurd rfl (hg _ this)
  · rw [aget_none]
    intro e he q
    have := h2 e he
    rw [q] at this
    exact hne this
  · unfold keysA
    rw [List.map_eq_nil_iff, List.filter_eq_nil_iff]
    intro e he
    simp [ownA, h2 e he]
    exact fun q => hne q.symm

set_option maxHeartbeats 2000000 in
theorem frees_any (A : Option Addr) (l : List OpT) (cap : Nat) (one two key : Int) (alone : Bool) (w : World) (hl : OpsAt w w.heap.size A l) (hcap : l.length ≤ 4398046510976) :
    Calls Try.prog 7 #[.slice A l.length cap, .int .i64 one, .int .i64 two, .int .i64 key, .bool alone] w fun e w' => e = .returned (.bool true) ∧ Below w.heap.size w w' := by
  go_enter Try.func7, Try.ntmps7
  go_wp2_with fail
  go_loopg [11, 12] (l.length + 1) (fun n v i wr => ∃ j : Nat, i = .int .i64 j ∧ j ≤ l.length ∧ n = l.length + 1 - j ∧ OpRow wr w.heap.size v (ownOf one two (l.take j)) ∧ Below w.heap.size w wr)
  case atStart => exact ⟨0, rfl, Nat.zero_le _, rfl, OwnRow.none_ _ _ _ _ _, Below.refl _ _⟩
  case round =>
    obtain ⟨j, rfl, hj, hn, hrow, hb⟩ := hrel
    have HN := hid hn
    clear hn
    by_cases h1 : j < l.length
    · obtain ⟨x, hx⟩ : ∃ x, l[j]? = some x := ⟨_, List.getElem?_eq_getElem h1⟩
      obtain ⟨b, off, rfl, hb1, hc⟩ := (hl.below hb) j x hx
      have k0 : wr.cell? ⟨b, off + j * 4, none⟩ = some (.int .i64 x.kind) := hc 0 _ rfl
      have k1 := hc 1 _ rfl
      have k2 := hc 2 _ rfl
      have k3 := hc 3 _ rfl
      have htk : l.take (j + 1) = l.take j ++ [x] := by
        rw [List.take_succ_eq_append_getElem h1]
        have : l[j] = x := by rw [List.getElem?_eq_getElem h1] at hx; exact Option.some.inj hx
        rw [this]
      have HT := hid htk
      have hol : (ownOf one two (l.take j)).length ≤ j := Nat.le_trans (List.length_filter_le _ _) (by simp; omega)
      have HR := hid hrow
      clear hc hx hl htk hrow
      cases ho1 : (x.owner == one)
      · cases ho2 : (x.owner == two)
        · go_wp2_with fail
          go_roundg (l.length + 1 - (j + 1))
          case measure => rw [HN.out]; omega
          case rel => exact ⟨j + 1, by go_num, by omega, rfl, by rw [HT.out, ownOf_snoc, if_neg (by simp [ho1, ho2])]; exact HR.out, hb⟩
        · go_wp2_with (at_builtin; go_loud (refine OwnRow.append (R := fun (x : OpT) cs => cs = encOp x) w.heap.size rfl (.tmp 41) (.tmp 46) 22 40 _ 4 32 rfl Try.underlying22 info40 (by rfl) (by decide) (by decide) u11 _ x [.int .i64 x.kind, .int .i64 x.owner, .int .i64 x.key, .bool x.alone] rfl rfl rfl rfl (by intro u hu; simp at hu; rcases hu with rfl | rfl | rfl | rfl <;> rfl) HR.out hb hb.size (by omega) ?_); intro v5 w5 ho5 hb5 hg5 hat5)
          go_roundg (l.length + 1 - (j + 1))
          case measure => rw [HN.out]; omega
          case rel => exact ⟨j + 1, by go_num, by omega, rfl, by rw [HT.out, ownOf_snoc, if_pos (by simp [ho2])]; exact ho5, hb5⟩
      · go_wp2_with (at_builtin; go_loud (refine OwnRow.append (R := fun (x : OpT) cs => cs = encOp x) w.heap.size rfl (.tmp 41) (.tmp 46) 22 40 _ 4 32 rfl Try.underlying22 info40 (by rfl) (by decide) (by decide) u11 _ x [.int .i64 x.kind, .int .i64 x.owner, .int .i64 x.key, .bool x.alone] rfl rfl rfl rfl (by intro u hu; simp at hu; rcases hu with rfl | rfl | rfl | rfl <;> rfl) HR.out hb hb.size (by omega) ?_); intro v5 w5 ho5 hb5 hg5 hat5)
        go_roundg (l.length + 1 - (j + 1))
        case measure => rw [HN.out]; omega
        case rel => exact ⟨j + 1, by go_num, by omega, rfl, by rw [HT.out, ownOf_snoc, if_pos (by simp [ho1])]; exact ho5, hb5⟩
    · have : j = l.length := by omega
      subst this
      rw [List.take_length] at hrow
      obtain ⟨A1, c1, hv, hops⟩ := opsAt_own hrow
      subst hv
      have hol : (ownOf one two l).length ≤ l.length := List.length_filter_le _ _
      have hown := own_play one two l
      generalize ownOf one two l = lo at *
      clear hrow hl
      go_wp2_with fail
      refine (played_any A1 lo c1 wr _ (Nat.le_refl _) hops (by omega)).mono ?_
      rintro e w1 ⟨b0, rfl, t1, f1⟩
      have g1 := hb.trans (f1.mono hb.size)
      have hR := Right.play lo
      generalize playA lo = A0 at t1 hR hown
      by_cases h12 : one = two
      · have hob : (one == two) = true := by simpa using h12
        clear h12
        go_wp2_with fail
        refine (alive_any w1).mono ?_
        rintro e w3 ⟨rfl, f3⟩
        go_wp2_with fail
        go_ret
        exact ⟨rfl, g1.trans (f3.mono g1.size)⟩
      · have hob : (one == two) = false := by simpa using h12
        obtain ⟨hfr, hg, hk⟩ := freed (key := key) (al := alone) hown h12
        have hR2 := (hR.drop one).take two key alone
        have H12 := hid h12
        clear h12 hown
        go_wp2_with fail
        refine (drop_o t1 (by have := hR.len; omega) one).mono ?_
        rintro e w2 ⟨rfl, t2, f2⟩
        have g2 := g1.trans (f2.mono hb.size)
        go_wp2_with fail
        refine (take_o t2 two key alone).mono ?_
        rintro e w3 ⟨rfl, t3, f3⟩
        have g3 := g2.trans (f3.mono hb.size)
        generalize (takeA (dropA one A0) two key alone).2 = A3 at *
        generalize (takeA (dropA one A0) two key alone).1 = e3 at *
        go_wp2_with fail
        have c4 := holds_k t3.1 one key
        rw [hg] at c4
        refine c4.mono ?_
        clear c4
        rintro e w4 ⟨rfl, rfl⟩
        go_wp2_with fail
        refine (holds_k t3.1 two key).mono ?_
        rintro e w4 ⟨rfl, rfl⟩
        go_wp2_with fail
        refine (alive_any w3).mono ?_
        rintro e w4 ⟨rfl, f4⟩
        have g4 := g3.trans (f4.mono g3.size)
        have t4 := t3.below f4 (Nat.le_refl _)
        have hh := held_o t4 (by have := hR2.len; omega) one
        rw [hk] at hh
        rcases hfr with ⟨he, hs⟩ | he
        · subst he
          generalize (aget (key, two) A3).isSome = hv at *
          subst hs
          go_wp2_with fail
          refine hh.mono ?_
          rintro e w5 ⟨⟨v, rfl, hv⟩, t5, f5⟩
          obtain ⟨A5, c5, rfl⟩ := own_slice hv
          rw [show (sorted ([] : List Int)).length = 0 from by simp [sorted]]
          go_wp2_with fail
          go_ret
          exact ⟨rfl, g4.trans (f5.mono g4.size)⟩
        · subst he
          go_wp2_with fail
          refine hh.mono ?_
          rintro e w5 ⟨⟨v, rfl, hv⟩, t5, f5⟩
          obtain ⟨A5, c5, rfl⟩ := own_slice hv
          rw [show (sorted ([] : List Int)).length = 0 from by simp [sorted]]
          go_wp2_with fail
          go_ret
          exact ⟨rfl, g4.trans (f5.mono g4.size)⟩
end Go.Proofs.Ytgfiifhnnjammaa
