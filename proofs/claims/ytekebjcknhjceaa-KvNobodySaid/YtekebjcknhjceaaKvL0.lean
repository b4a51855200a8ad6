/- Walks of trothlaw13.alive (true) and KvLast (true). Conditions: the argument's slice reads as its list. -/
import Derived.Test.YtekebjcknhjceaaKvW8
namespace Go.Mine
set_option linter.unusedVariables false
set_option linter.unusedSimpArgs false
/-- A store in which one work alone has put or taken one key. -/
def oneS (k n : Int) : Option Ch → KS
  | none => KS.new
  | some c => ⟨List.replicate 16 0, List.replicate 16 false, [(n, ⟨[c], false⟩)], [((k, n), true)]⟩
theorem one_change {k n : Int} (h1 : 1 ≤ n) (h2 : 0 ≤ k) (h3 : k < 16) (o : Option Ch) (ho : ∀ d, o = some d → d.key = k) (c : Ch) (hc : c.key = k) : (oneS k n o).change n c = (0, oneS k n (some c)) := by
  subst hc
  have a1 : ¬ n < 1 := by omega
  have a2 : ¬ c.key < 0 := by omega
  have a3 : ¬ 16 ≤ c.key := by omega
  cases o with
  | none => simp [oneS, KS.new, KS.change, KS.touch, takeA, aget, aput, putCh, chAt, KS.listOf, a1, a2, a3]
  | some d =>
    have := ho d rfl
    simp [oneS, KS.change, KS.touch, takeA, aget, aput, putCh, chAt, KS.listOf, a1, a2, a3, confA, this]
theorem bad_change {s : KS} {n : Int} {c : Ch} (h : n < 1 ∨ c.key < 0 ∨ 16 ≤ c.key) : s.change n c = (1, s) := by
  simp [KS.change, KS.touch, h]
theorem bad_get {s : KS} {n k : Int} (h : n < 1 ∨ k < 0 ∨ 16 ≤ k) : s.get n k = ((0, false, 1), s) := by
  simp [KS.get, KS.touch, h]
def wantV : Option Ch → Int
  | none => 0
  | some c => c.val
def wantB : Option Ch → Bool
  | none => false
  | some c => c.kind == 1
theorem one_get {k n : Int} (h1 : 1 ≤ n) (h2 : 0 ≤ k) (h3 : k < 16) (o : Option Ch) (ho : ∀ d, o = some d → d.key = k) : ((oneS k n o).get n k).1 = (wantV o, wantB o, 0) := by
  have a1 : ¬ n < 1 := by omega
  have a2 : ¬ k < 0 := by omega
  have a3 : ¬ 16 ≤ k := by omega
  obtain ⟨j, rfl⟩ := Int.eq_ofNat_of_zero_le h2
  have hj : j < 16 := by omega
  cases o with
  | none =>
    simp [oneS, KS.new, KS.get, KS.touch, takeA, aget, aput, KS.listOf, seenV, wantV, wantB, a1, a2, a3, List.getElem?_replicate, hj, -List.reduceReplicate]
  | some d =>
    have := ho d rfl
    simp [oneS, KS.get, KS.touch, takeA, aget, aput, KS.listOf, seenV, wantV, wantB, a1, a2, a3, confA, this]
/-- .. prepared and committed, the store tells it. -/
theorem one_end {k n : Int} (h1 : 1 ≤ n) (h2 : 0 ≤ k) (h3 : k < 16) (o : Option Ch) (ho : ∀ d, o = some d → d.key = k) :
    ((((oneS k n o).get n k).2.prepare n).1.2 = 0) ∧ ((((oneS k n o).get n k).2.prepare n).1.1.length ≤ 1) ∧ (((((oneS k n o).get n k).2.prepare n).2.commit n).2.value k = (wantV o, wantB o)) := by
  have a1 : ¬ n < 1 := by omega
  have a2 : ¬ k < 0 := by omega
  have a3 : ¬ 16 ≤ k := by omega
  obtain ⟨j, rfl⟩ := Int.eq_ofNat_of_zero_le h2
  have hj : j < 16 := by omega
  cases o with
  | none =>
    simp [oneS, KS.new, KS.get, KS.touch, takeA, aget, aput, KS.listOf, KS.prepare, KS.commit, KS.gone, adel, dropA, ownA, KS.value, wantV, wantB, a1, a2, a3, List.getElem?_replicate, hj, -List.reduceReplicate]
  | some d =>
    have := ho d rfl
    simp [oneS, KS.get, KS.touch, takeA, aget, aput, KS.listOf, KS.prepare, KS.commit, KS.gone, adel, dropA, ownA, KS.value, wantV, wantB, a1, a2, a3, confA, this, setV, List.getElem?_set, hj, -List.reduceReplicate]
end Go.Mine
namespace Go.Proofs.Ytekebjcknhjceaa
open Go.RowKit Go.Mine Go.Proofs.YtekebjcknhjceaaW.PrintWords
open Go.ChangeMaps (setBlock)
set_option linter.unusedVariables false
set_option linter.unusedSimpArgs false

/-- A store among the blocks from B on. -/
def St (B : Nat) (w : World) (b0 : Nat) (s : KS) : Prop := (∃ F, KvAt F w b0 s ∧ ∀ i, F i → B ≤ i) ∧ B ≤ w.heap.size
theorem St.of {B : Nat} {F F' : Nat → Prop} {w w' : World} {b0 : Nat} {s : KS} (hB : B ≤ w.heap.size) (hF : ∀ i, F i → B ≤ i) (h : KvAt F' w' b0 s) (hg : Grew F F' w) (hf : Fr F w w') : St B w' b0 s ∧ Below B w w' :=
  ⟨⟨⟨F', h, fun i hi => (hg i hi).elim (hF i) (fun q => Nat.le_trans hB q)⟩, Nat.le_trans hB hf.size⟩, hf.below hB (fun k hk q => by have := hF k q; omega)⟩
theorem St.below {B : Nat} {w w' : World} {b0 : Nat} {s : KS} (h : St B w b0 s) (hb : Below w.heap.size w w') : St B w' b0 s := by
  obtain ⟨⟨F, h1, h2⟩, h3⟩ := h
  exact ⟨⟨F, h1.below hb, h2⟩, Nat.le_trans h3 hb.size⟩
theorem St.mono {B B' : Nat} {w : World} {b0 : Nat} {s : KS} (h : St B w b0 s) (hB : B' ≤ B) : St B' w b0 s := by
  obtain ⟨⟨F, h1, h2⟩, h3⟩ := h
  exact ⟨⟨F, h1, fun i hi => Nat.le_trans hB (h2 i hi)⟩, Nat.le_trans hB h3⟩

theorem new_kv (w : World) : KvAt (fun i => i = w.heap.size) (w.alloc (.cells (storeCells (List.replicate 16 0) (List.replicate 16 false) none none) 69)) w.heap.size KS.new := by
  refine ⟨KS.Ok.new, [], [], none, none, ⟨fun i hi => by subst hi; simp, rfl, rfl, rfl, (MapKept.heap_alloc w _).1, rfl, rfl, fun b q => (by cases q), fun x hx => absurd hx List.not_mem_nil, List.Pairwise.nil, ?_, fun b q => (by cases q), fun b q => (by cases q)⟩, rfl⟩
  exact ⟨[], rfl, ⟨none, (MapKept.heap_alloc w _).1, rfl, rfl, fun b q => (by cases q)⟩⟩
theorem new_st (w : World) : Calls Try.prog 10 #[] w fun e w' => ∃ b0, e = .returned (.pointer (some ⟨b0, 0, none⟩)) ∧ St w.heap.size w' b0 KS.new ∧ Below w.heap.size w w' := by
  refine (new_any w).mono ?_
  rintro e w' ⟨rfl, rfl⟩
  exact ⟨_, rfl, ⟨⟨_, new_kv w, fun i hi => by rw [hi]; exact Nat.le_refl _⟩, by simp⟩, (Below.refl _ _).alloc (Nat.le_refl _) _⟩
theorem put_st {B : Nat} {w : World} {b0 : Nat} {s : KS} (h : St B w b0 s) (n key val : Int) :
    Calls Try.prog 12 #[.pointer (some ⟨b0, 0, none⟩), .int .i64 n, .int .i64 key, .int .u64 val] w fun e w' => e = .returned (.int .i64 (s.change n ⟨1, key, val⟩).1) ∧ St B w' b0 (s.change n ⟨1, key, val⟩).2 ∧ Below B w w' := by
  obtain ⟨⟨F, h1, h2⟩, h3⟩ := h
  refine (put_any h1 n key val).mono ?_
  rintro e w' ⟨F', he, hk, hg, hf⟩
  exact ⟨he, St.of h3 h2 hk hg hf⟩
theorem del_st {B : Nat} {w : World} {b0 : Nat} {s : KS} (h : St B w b0 s) (n key : Int) :
    Calls Try.prog 13 #[.pointer (some ⟨b0, 0, none⟩), .int .i64 n, .int .i64 key] w fun e w' => e = .returned (.int .i64 (s.change n ⟨2, key, 0⟩).1) ∧ St B w' b0 (s.change n ⟨2, key, 0⟩).2 ∧ Below B w w' := by
  obtain ⟨⟨F, h1, h2⟩, h3⟩ := h
  refine (del_any h1 n key).mono ?_
  rintro e w' ⟨F', he, hk, hg, hf⟩
  exact ⟨he, St.of h3 h2 hk hg hf⟩
theorem get_st {B : Nat} {w : World} {b0 : Nat} {s : KS} (h : St B w b0 s) (n key : Int) :
    Calls Try.prog 14 #[.pointer (some ⟨b0, 0, none⟩), .int .i64 n, .int .i64 key] w fun e w' => e = .returned (.tuple #[.int .u64 (s.get n key).1.1, .bool (s.get n key).1.2.1, .int .i64 (s.get n key).1.2.2]) ∧ St B w' b0 (s.get n key).2 ∧ Below B w w' := by
  obtain ⟨⟨F, h1, h2⟩, h3⟩ := h
  refine (get_any h1 n key).mono ?_
  rintro e w' ⟨F', he, hk, hg, hf⟩
  exact ⟨he, St.of h3 h2 hk hg hf⟩
theorem commit_st {B : Nat} {w : World} {b0 : Nat} {s : KS} (h : St B w b0 s) (n : Int) :
    Calls Try.prog 16 #[.pointer (some ⟨b0, 0, none⟩), .int .i64 n] w fun e w' => e = .returned (.int .i64 (s.commit n).1) ∧ St B w' b0 (s.commit n).2 ∧ Below B w w' := by
  obtain ⟨⟨F, h1, h2⟩, h3⟩ := h
  refine (commit_any h1 n).mono ?_
  rintro e w' ⟨he, ⟨F', hk, hg⟩, hf⟩
  exact ⟨he, St.of h3 h2 hk hg hf⟩
theorem backout_st {B : Nat} {w : World} {b0 : Nat} {s : KS} (h : St B w b0 s) (n : Int) :
    Calls Try.prog 26 #[.pointer (some ⟨b0, 0, none⟩), .int .i64 n] w fun e w' => e = .returned (.int .i64 (s.backout n).1) ∧ St B w' b0 (s.backout n).2 ∧ Below B w w' := by
  obtain ⟨⟨F, h1, h2⟩, h3⟩ := h
  refine (backout_any h1 n).mono ?_
  rintro e w' ⟨he, ⟨F', hk, hg⟩, hf⟩
  exact ⟨he, St.of h3 h2 hk hg hf⟩
theorem prepare_st {B : Nat} {w : World} {b0 : Nat} {s : KS} (h : St B w b0 s) (n : Int) :
    Calls Try.prog 15 #[.pointer (some ⟨b0, 0, none⟩), .int .i64 n] w fun e w' => ∃ A c, e = .returned (.tuple #[.slice A (s.prepare n).1.1.length c, .int .i64 (s.prepare n).1.2]) ∧ ChAt w' w'.heap.size A (s.prepare n).1.1 ∧ St B w' b0 (s.prepare n).2 ∧ Below B w w' := by
  obtain ⟨⟨F, h1, h2⟩, h3⟩ := h
  refine (prepare_any h1 n).mono ?_
  rintro e w' ⟨v, he, ⟨F', hk, hg, _⟩, hr, hf⟩
  obtain ⟨A, c, rfl, _, hat⟩ := hr.at_
  exact ⟨A, c, he, hat, St.of h3 h2 hk hg hf⟩
theorem value_st {B : Nat} {w : World} {b0 : Nat} {s : KS} (h : St B w b0 s) (key : Int) :
    Calls Try.prog 17 #[.pointer (some ⟨b0, 0, none⟩), .int .i64 key] w fun e w' => e = .returned (.tuple #[.int .u64 (s.value key).1, .bool (s.value key).2]) ∧ St B w' b0 s ∧ Below w.heap.size w w' := by
  obtain ⟨⟨F, h1, h2⟩, h3⟩ := h
  refine (value_any h1 key).mono ?_
  rintro e w' ⟨he, m, rfl⟩
  exact ⟨he, St.below ⟨⟨F, h1, h2⟩, h3⟩ (bdN w m), bdN w m⟩
theorem busy_st {B : Nat} {w : World} {b0 : Nat} {s : KS} (h : St B w b0 s) (n : Int) :
    Calls Try.prog 22 #[.pointer (some ⟨b0, 0, none⟩), .int .i64 n] w fun e w' => e = .returned (.bool (s.busy n)) ∧ w = w' := by
  obtain ⟨⟨F, h1, h2⟩, h3⟩ := h
  exact busy_any h1 n

set_option maxRecDepth 100000 in
set_option maxHeartbeats 2000000 in
theorem alive_any (w : World) : Calls Try.prog 11 #[] w fun e w' => e = .returned (.bool true) ∧ Below w.heap.size w w' := by
  have e1 : KS.new.change 1 ⟨1, 3, 9⟩ = (0, oneS 3 1 (some ⟨1, 3, 9⟩)) := by decide +kernel
  have e2 : (oneS 3 1 (some ⟨1, 3, 9⟩)).get 2 3 = ((0, false, 120), oneS 3 1 (some ⟨1, 3, 9⟩)) := by decide +kernel
  have e3 : (oneS 3 1 (some ⟨1, 3, 9⟩)).commit 1 = (0, ⟨[0, 0, 0, 9, 0, 0, 0, 0, 0, 0, 0, 0, 0, 0, 0, 0], [false, false, false, true, false, false, false, false, false, false, false, false, false, false, false, false], [], []⟩) := by decide +kernel
  have e4 : ((⟨[0, 0, 0, 9, 0, 0, 0, 0, 0, 0, 0, 0, 0, 0, 0, 0], [false, false, false, true, false, false, false, false, false, false, false, false, false, false, false, false], [], []⟩ : KS).get 2 3).1 = (9, true, 0) := by decide +kernel
  have E1 := hid e1
  have E2 := hid e2
  have E3 := hid e3
  have E4 := hid e4
  clear e1 e2 e3 e4
  go_enter Try.func11, Try.ntmps11
  go_wp2_with fail
  refine (new_st w).mono ?_
  rintro e w1 ⟨b0, rfl, t1, f1⟩
  go_wp2_with fail
  have c2 := put_st t1 1 3 9
  rw [E1.out] at c2
  refine c2.mono ?_
  clear c2
  rintro e w2 ⟨rfl, t2, f2⟩
  go_wp2_with fail
  have c3 := get_st t2 2 3
  rw [E2.out] at c3
  refine c3.mono ?_
  clear c3
  rintro e w3 ⟨rfl, t3, f3⟩
  go_wp2_with fail
  have c4 := commit_st t3 1
  rw [E3.out] at c4
  refine c4.mono ?_
  clear c4
  rintro e w4 ⟨rfl, t4, f4⟩
  go_wp2_with fail
  have c5 := get_st t4 2 3
  rw [E4.out] at c5
  refine c5.mono ?_
  clear c5
  rintro e w5 ⟨rfl, t5, f5⟩
  go_wp2_with fail
  have c6 := put_st t5 0 3 9
  rw [bad_change (.inl (by decide))] at c6
  refine c6.mono ?_
  clear c6
  rintro e w6 ⟨rfl, t6, f6⟩
  go_wp2_with fail
  go_ret
  exact ⟨rfl, ((((f1.trans f2).trans f3).trans f4).trans f5).trans f6⟩
end Go.Proofs.Ytekebjcknhjceaa
