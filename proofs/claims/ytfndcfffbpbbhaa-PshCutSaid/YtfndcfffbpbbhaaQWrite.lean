/- gds.Write: a variable's segments: what the call gives. -/
import Derived.Test.YtfndcfffbpbbhaaQx0
import Derived.Test.YtfndcfffbpbbhaaQPieces
import Derived.RangeFuncBox
import Derived.Maps.AppendAt
import Derived.WalkSpells
namespace Go.Proofs.Ytfndcfffbpbbhaa.Q
open Go Go.RowKit Go.Shelf
open Go.Proofs.YtfndcfffbpbbhaaW.PrintWords Go.Proofs.YtfndcfffbpbbhaaW.PrintLast Go.Proofs.YtfndcfffbpbbhaaW.PrintMore
attribute [local go_sem] Oper.semAt_some
set_option linter.unusedVariables false
set_option linter.unusedSimpArgs false
def pieceOf (d : List Int) (s N k : Nat) : List Int := if k + 1 < N then (d.drop (k * s)).take s else d.drop (k * s)
def segOf (d id : List Int) (s N k : Nat) : List Int :=
  let f := (if k = 0 then id else []) ++ pieceOf d s N k
  let n : Int := 2 + (f.length : Int) + (if k + 1 < N then 32768 else 0)
  [n / 256 % 256, n % 256] ++ f
def segsOf (d id : List Int) (s N : Nat) : Nat → List Int
  | 0 => []
  | k + 1 => segsOf d id s N k ++ segOf d id s N k
def countOf (L s : Nat) : Nat := if L = 0 then 1 else (L + s - 1) / s
def InvW (w : World) (b0 : Nat) (S : Obj) (l id : List Int) (s N k : Nat) (W : World) : Prop :=
  (∃ v, Boxed W (b0 + 1) 27 v ∧ W.ownsRow (b0 + 4) 5 1 v (segsOf l id s N k).length (nums .u8 (segsOf l id s N k)) ∧ (v = .slice none 0 0 ↔ k = 0)) ∧ W.heap[b0]? = some S ∧ Below b0 w W ∧ b0 + 4 ≤ W.heap.size
def OutW (w : World) (b0 : Nat) (S : Obj) (l id : List Int) (s N k : Nat) (W W' : World) : Prop := KeepsOthers W W' ∧ Keep2 (b0 + 2) (b0 + 3) W W' ∧ InvW w b0 S l id s N (k + 1) W'
theorem piece_len {l : List Int} {s N : Nat} (h : ∀ k, k + 1 < N → k * s + s < l.length) (k : Nat) : (pieceOf l s N k).length = (if k + 1 < N then s else l.length - k * s) := by
  unfold pieceOf
  split
  · rename_i hk
    have := h k hk
    rw [List.length_take, List.length_drop]; omega
  · rw [List.length_drop]
theorem piece_le (l : List Int) (s N k : Nat) : (pieceOf l s N k).length ≤ l.length := by
  unfold pieceOf
  split
  · rw [List.length_take, List.length_drop]; omega
  · rw [List.length_drop]; omega
theorem below_grown2 {W w1 : World} {o o' : Obj} {row : Option Nat} (h : ((W.alloc o).alloc o').grownBy w1 row) (hr : ∀ k, row = some k → W.heap.size ≤ k) : Below W.heap.size W w1 :=
  (((Below.refl _ _).alloc (Nat.le_refl _) _).alloc (by simp) _).grown h (by simp; omega) hr
def Stop (p : Prop) : Prop := p
theorem stop {p : Prop} (h : p) : Stop p := h
theorem stop' {p : Prop} (h : Stop p) : p := h
theorem reads_own {W : World} {base e g n cap : Nat} {xs : List Int} (h : W.ownsRow base e 1 (.slice (some ⟨g, 0, none⟩) n cap) n (nums .u8 xs)) (hn : n ≤ 9223372036854775807) : ReadsInt W .u8 (some ⟨g, 0, none⟩) n xs := by
  have hl : xs.length = n := by have := h.1; simpa [nums] using this
  refine ⟨hl, hn, fun _ => ⟨_, rfl, fun j hj => h.cells rfl j _ ?_⟩⟩
  simp only [nums, List.getElem?_map, List.getD_eq_getElem?_getD, List.getElem?_eq_getElem (show j < xs.length by omega), Option.map_some, Option.getD_some]
theorem own_cells {W : World} {base e n : Nat} {v : Value} {xs : List Value} (h : W.ownsRow base e 1 v n xs) : ∀ (j : Nat) (o : Obj), v.ownBlock = some j → W.heap[j]? = some o → o.isCells = true := by
  intro j o hj ho
  obtain ⟨cells, hc⟩ := own_typed h j hj
  rw [ho] at hc
  cases hc; rfl
theorem own_below {W W' : World} {base e n : Nat} {v : Value} {xs : List Value} (h : W.ownsRow base e 1 v n xs) (hb : Below W.heap.size W W') : W'.ownsRow base e 1 v n xs :=
  own_move h fun k hk => hb.block k (own_lt h k hk)
theorem reads_set2 {W : World} {base e g n cap : Nat} {xs : List Int} (h : W.ownsRow base e 1 (.slice (some ⟨g, 0, none⟩) n cap) n (nums .u8 (0 :: 0 :: xs))) (hn : n ≤ 9223372036854775807) (x y : Int) :
    ReadsInt ((W.setCell ⟨g, 0, none⟩ (.int .u8 x)).setCell ⟨g, 1, none⟩ (.int .u8 y)) .u8 (some ⟨g, 0, none⟩) n ([x, y] ++ xs) := by
  have hl : n = (0 :: 0 :: xs).length := by have := h.1; simpa [nums] using this.symm
  subst hl
  have h1 := own_put h 0 x
  have h2 := own_put (xs := (0 :: 0 :: xs).set (0 : Int).toNat x) (by simpa using h1) 1 y
  exact reads_own (by simpa using h2) hn
theorem mid {w W w2 w3 : World} {b0 : Nat} {v : Value} {n : Nat} {xs : List Value} (hB : Below b0 w W) (hsz : b0 + 4 ≤ W.heap.size) (hrow : W.ownsRow (b0 + 4) 5 1 v n xs) (hb2 : Below W.heap.size W w2) (g3 : w2.grownBy w3 v.ownBlock) :
    Below b0 w w3 ∧ (∀ j, j < b0 + 4 → w3.heap[j]? = W.heap[j]?) ∧ b0 + 4 ≤ w3.heap.size := by
  have h2 : Below b0 w w2 := hB.trans (hb2.mono (by omega))
  refine ⟨h2.grown g3 (by have := hb2.size; omega) (fun k hk => by have := own_base hrow k hk; omega), fun j hj => ?_, by have := hb2.size; have := g3.size; omega⟩
  have hs := hb2.size
  refine (g3.block j (by omega) (fun e => ?_)).trans (hb2.block j (by omega))
  have := own_base hrow j e.symm
  omega
theorem fin_ {w W w2 w3 w4 : World} {b0 : Nat} {S : Obj} {v v2 v3 : Value} {l id hd pc : List Int} {s N m m3 k : Nat} (hB : Below b0 w W) (hsz : b0 + 4 ≤ W.heap.size) (hS : W.heap[b0]? = some S) (hv : Boxed W (b0 + 1) 27 v)
    (hrow : W.ownsRow (b0 + 4) 5 1 v (segsOf l id s N k).length (nums .u8 (segsOf l id s N k))) (hb2 : Below W.heap.size W w2) (hk2 : KeepsOthers W w2) (g3 : w2.grownBy w3 v.ownBlock)
    (o3 : w3.ownsRow (b0 + 4) 5 1 v2 (segsOf l id s N k ++ hd).length (nums .u8 (segsOf l id s N k ++ hd))) (g4 : w3.grownBy w4 v2.ownBlock) (o4 : w4.ownsRow (b0 + 4) 5 1 v3 ((segsOf l id s N k ++ hd) ++ pc).length (nums .u8 ((segsOf l id s N k ++ hd) ++ pc)))
    (n2 : v2 = .slice none 0 0 ↔ v = .slice none 0 0 ∧ m = 0) (hm : m ≠ 0) (n3 : v3 = .slice none 0 0 ↔ v2 = .slice none 0 0 ∧ m3 = 0) (hys : segsOf l id s N k ++ hd ++ pc = segsOf l id s N (k + 1)) :
    OutW w b0 S l id s N k W (w4.setCell ⟨b0 + 1, 0, none⟩ v3) := by
  obtain ⟨hB3, h3, hs3⟩ := mid hB hsz hrow hb2 g3
  have hs2 := hb2.size
  have hs3 := g3.size
  have hs4 := g4.size
  have h4 : ∀ j, j < b0 + 4 → w4.heap[j]? = W.heap[j]? := by
    intro j hj
    refine (g4.block j (by omega) (fun e => ?_)).trans (h3 j hj)
    have := own_base o3 j e.symm
    omega
  have hv4 : Boxed w4 (b0 + 1) 27 v := (h4 _ (by omega)).trans hv
  have hB4 : Below b0 w w4 := hB3.grown g4 (by omega) (fun k hk => by have := own_base o3 k hk; omega)
  have h5 : ∀ j, j < b0 + 4 → j ≠ b0 + 1 → (w4.setCell ⟨b0 + 1, 0, none⟩ v3).heap[j]? = W.heap[j]? := fun j hj hne => (Below.heap_setCell w4 ⟨b0 + 1, 0, none⟩ v3 j hne).trans (h4 j hj)
  rw [hys] at o4
  have row3 := own_below hrow hb2
  refine ⟨hk2.trans ((KeepsOthers.of_grownBy g3 (own_cells row3)).trans ((KeepsOthers.of_grownBy g4 (own_cells o3)).trans (KeepsOthers.setCell _ _ _))), ⟨h5 _ (by omega) (by omega), h5 _ (by omega) (by omega)⟩,
    ⟨v3, hv4.set v3, own_setCell o4 (fun e => by have h : b0 + 4 ≤ b0 + 1 := own_base o4 _ e.symm; omega) _, ?_⟩, (h5 _ (by omega) (by omega)).trans hS, hB4.setCell (p := ⟨b0 + 1, 0, none⟩) (by simp) _, ?_⟩
  · constructor
    · intro h; exact absurd (n2.1 (n3.1 h).1).2 hm
    · intro h; omega
  · have : (w4.setCell ⟨b0 + 1, 0, none⟩ v3).heap.size = w4.heap.size := by simp [World.setCell]
    omega
theorem last_eq {l id pc f : List Int} {s N k : Nat} {la : Bool} {m : Int}
    (hn : segOf l id s N k = (let n : Int := 2 + (((if k = 0 then id else []) ++ pc).length : Int) + (if la = true then 0 else 32768); [n / 256 % 256, n % 256] ++ ((if k = 0 then id else []) ++ pc)))
    (hf : (if k = 0 then id else []) = f) (hm : 2 + ((f ++ pc).length : Int) + (if la = true then 0 else 32768) = m) (hb : 0 ≤ m ∧ m < 65536) : segsOf l id s N k ++ ([m / 256, m % 256] ++ f) ++ pc = segsOf l id s N (k + 1) := by
  rw [segsOf, hn, hf]
  simp only [hm]
  rw [show m / 256 % 256 = m / 256 by omega]
  simp
theorem segs_len (l id : List Int) (s N : Nat) : ∀ k, (segsOf l id s N k).length ≤ k * (l.length + id.length + 2)
  | 0 => by simp [segsOf]
  | k + 1 => by
    have ih := segs_len l id s N k
    have h := piece_le l s N k
    have h2 : (segOf l id s N k).length ≤ l.length + id.length + 2 := by
      unfold segOf
      simp only [List.length_append, List.length_cons, List.length_nil]
      split <;> simp <;> omega
    rw [segsOf, List.length_append, Nat.succ_mul]
    omega
theorem segs_bound {l id : List Int} {s N k : Nat} (hs : 0 < s) (h2 : ∀ k, k + 1 < N → k * s + s < l.length) (hk : k ≤ N) (hl : l.length ≤ 2048) (hid : id.length = 2) : (segsOf l id s N k).length ≤ 10000000 := by
  have h1 := segs_len l id s N k
  have hN : N ≤ 2049 := by
    by_cases h : 2 ≤ N
    · have := h2 (N - 2) (by omega)
      have := Nat.le_mul_of_pos_right (N - 2) hs
      omega
    · omega
  have : k * (l.length + id.length + 2) ≤ 2049 * 2052 := Nat.mul_le_mul (by omega) (by omega)
  omega
theorem own_slice {W : World} {base e n : Nat} {v : Value} {xs : List Value} (h : W.ownsRow base e 1 v n xs) : ∃ A m c, v = .slice A m c := by
  rcases h.2 with ⟨rfl, rfl⟩ | ⟨g, cap, cur, rfl, _⟩
  · exact ⟨_, _, _, rfl⟩
  · exact ⟨_, _, _, rfl⟩
theorem own_some {W : World} {base e n : Nat} {v : Value} {xs : List Value} (h : W.ownsRow base e 1 v n xs) (hv : v ≠ .slice none 0 0) : ∃ g c, v = .slice (some ⟨g, 0, none⟩) n c ∧ n ≤ 9223372036854775807 := by
  rcases h.2 with ⟨rfl, rfl⟩ | ⟨g, cap, cur, rfl, _, _, h1, h2, _⟩
  · exact absurd rfl hv
  · exact ⟨_, _, rfl, by unfold maxLen at h2; omega⟩
theorem app_in {F : Fence} {n : Nat} {P : Program} (w : World) {ops : Array Oper} {rest : List Oper} {o : Oper} {a : Act} {Q : Exit → Act → World → Prop}
    (hg : o.guard = none) (s x : Operand) (t : TypeId) (hop : o.op = Op.call { callee := Callee.builtin Builtin.append, args := #[s, x], argTypes := #[t, t] })
    (base : Nat) (e : TypeId) (i : TypeInfo) (h1 : P.underlying t = some (.slice e)) (h2 : P.info? e = some i) (h3 : i.zero = some (.int .u8 0)) (h4 : i.size = 1) (h5 : i.bytes = 1)
    (v : Value) (xs ys : List Int) (A : Option Addr) (m c : Nat) (hs : a.eval s = v) (hown : w.ownsRow base e 1 v xs.length (nums .u8 xs)) (hx : a.eval x = .slice A m c) (HR : ReadsInt w .u8 A m ys)
    (b2 : xs.length + m ≤ 140737488355328) (b3 : base ≤ w.heap.size)
    (hK : ∀ v' w', w'.ownsRow base e 1 v' (xs ++ ys).length (nums .u8 (xs ++ ys)) → w.grownBy w' v.ownBlock → (v' = .slice none 0 0 ↔ v = .slice none 0 0 ∧ m = 0) → Stop (wpListIn F n P ops Q rest (a.put o.dst v') w')) :
    wpListIn F n P ops Q (o :: rest) a w := by
  have hm : ys.length = m := HR.1
  rcases A with _ | ad
  · have h0 : m = 0 := by
      rcases Nat.eq_zero_or_pos m with h0 | h0
      · exact h0
      · obtain ⟨ad, h, _⟩ := HR.2.2 h0
        cases h
    subst h0
    obtain rfl : ys = [] := List.eq_nil_of_length_eq_zero hm
    have hrun : (Builtin.append_ #[t, t] o.type #[v, .slice none 0 c]).run P w = .ok v w := by
      rcases hown.2 with ⟨rfl, hn⟩ | ⟨g, cap, cur, rfl, _, _, hnc, _⟩
      · simp [Builtin.append_, run_underlying h1, sizeOf, typeInfo, h2, Builtin.lenOf, Builtin.firstCells]
      · simp [Builtin.append_, run_underlying h1, sizeOf, typeInfo, h2, Builtin.lenOf, Builtin.firstCells, hnc, storeCells]
    refine wpListIn_plain hg fun K hK' => ?_
    unfold Oper.wpIn
    refine ⟨?_, ?_⟩
    · simp [Oper.about, hop, resolve, Target.leads, Sem.run_pure]
    · rw [Oper.semAt_plain F _ _ (by rw [hop]; intro c hc'; cases hc')]
      simp [execOp, hop, resolve, invoke, builtin, hs, hx, hrun, Result.andThen]
      exact hK' _ _ (hK v w (by simpa using hown) (World.grownBy.refl w _) (by simp))
  · have hcells : ∀ j u, (nums .u8 ys)[j]? = some u → w.cell? (ad.add j) = some u := by
      intro j u hu
      have hj : j < ys.length := by
        rcases Nat.lt_or_ge j ys.length with h | h
        · exact h
        · rw [List.getElem?_eq_none (by simpa [nums] using h)] at hu; cases hu
      obtain ⟨ad', e', hc⟩ := HR.2.2 (by omega)
      cases e'
      rw [hc j (by omega)]
      simp only [nums, List.getElem?_map, List.getElem?_eq_getElem hj, Option.map_some, Option.some.injEq] at hu
      rw [← hu, List.getD_eq_getElem?_getD, List.getElem?_eq_getElem hj]; rfl
    refine wpListIn_append_own w hg s x t hop base e i (.int .u8 0) 1 1 h1 h2 h3 h4 h5 rfl (by decide) v xs.length (nums .u8 xs) hs hown ad m c (nums .u8 ys) hx (by simp [nums, hm]) hcells
      (by intro u hu; obtain ⟨z, _, rfl⟩ := List.mem_map.1 hu; rfl) (by unfold maxLen; omega) (by omega) b3 ?_
    intro v' w' r1 r2 r3
    exact hK v' w' (by rw [nums_append, List.length_append, hm]; exact r1) r2 r3
def gds_Write.f (a0_0 : Int) (l0_1 : List Int) (a1 : Int) : Option (List Int × Int) :=
  if a1 < 1 ∨ 2048 < a1 then some ([], 1)
  else if a0_0 < 0 ∨ 65535 < a0_0 ∨ 2048 < (l0_1.length : Int) then some ([], 40)
  else if a1 * 64 < (l0_1.length : Int) then some ([], 5)
  else some (segsOf l0_1 [a0_0 / 256, a0_0 % 256] a1.toNat (countOf l0_1.length a1.toNat) (countOf l0_1.length a1.toNat), 0)
theorem count_facts (L s : Nat) (hs : 0 < s) : 0 < countOf L s ∧ (∀ k, k + 1 < countOf L s → k * s + s < L) ∧ L ≤ (countOf L s - 1) * s + s := by
  unfold countOf
  by_cases h : L = 0
  · subst h; simp
  · rw [if_neg h]
    have h0 : 1 ≤ (L + s - 1) / s := (Nat.le_div_iff_mul_le hs).2 (by omega)
    refine ⟨h0, fun k hk => ?_, ?_⟩
    · have := (Nat.le_div_iff_mul_le hs).1 (show k + 2 ≤ (L + s - 1) / s by omega)
      rw [Nat.add_mul] at this
      omega
    · have h1 := Nat.div_add_mod (L + s - 1) s
      have h2 := Nat.mod_lt (L + s - 1) hs
      have h3 : ((L + s - 1) / s - 1) * s + s = s * ((L + s - 1) / s) := by
        obtain ⟨m, hm⟩ : ∃ m, (L + s - 1) / s = m + 1 := ⟨_, (Nat.sub_add_cancel h0).symm⟩
        rw [hm, Nat.add_sub_cancel, Nat.mul_comm s, Nat.succ_mul]
      omega
theorem addr_of {w : World} {A : Option Addr} {l : List Int} (h : Kd.C (Kd.int .u8) w A l.length l) : l.length = 0 ∨ ∃ b off, A = some ⟨b, off, none⟩ := by
  rcases Nat.eq_zero_or_pos l.length with h0 | h0
  · exact .inl h0
  · refine .inr ?_
    obtain ⟨ad, rfl, hc⟩ := h.2.2 h0
    obtain ⟨cs, hl, hk, hcell⟩ := hc 0 l[0] (List.getElem?_eq_getElem h0)
    have hk' : cs = [Value.int .u8 l[0]] := hk
    subst hk'
    have := hcell 0 _ rfl
    obtain ⟨b, o, sp⟩ := ad
    cases sp with
    | none => exact ⟨b, o, rfl⟩
    | some x => exact absurd this (by simp only [Addr.add, World.cell?]; split <;> simp)
theorem keep2_alloc {x y : Nat} {W : World} {o o' : Obj} (hx : x < W.heap.size) (hy : y < W.heap.size) : Keep2 x y W ((W.alloc o).alloc o') :=
  ⟨(Below.heap_alloc _ _ _ (by simp; omega)).trans (Below.heap_alloc _ _ _ hx), (Below.heap_alloc _ _ _ (by simp; omega)).trans (Below.heap_alloc _ _ _ hy)⟩
theorem keep2_put {x y l : Nat} {W : World} {o : Obj} (hx : x ≠ l) (hy : y ≠ l) : Keep2 x y W (W.putObj l o) :=
  ⟨World.putObj_heap_other (by omega), World.putObj_heap_other (by omega)⟩
theorem hr_below {w W : World} {b0 : Nat} {A : Option Addr} {l : List Int} (h : Kd.C (Kd.int .u8) w A l.length l) (hB : Below b0 w W) (hb : w.heap.size = b0) : Kd.C (Kd.int .u8) W A l.length l := Kd.C_below h (hb ▸ hB)
theorem piece_reads {W : World} {A : Option Addr} {l : List Int} {s N : Nat} (h : Kd.C (Kd.int .u8) W A l.length l) (hA : l.length = 0 ∨ ∃ b off, A = some ⟨b, off, none⟩) (h2 : ∀ k, k + 1 < N → k * s + s < l.length) (k : Nat) :
    ReadsInt W .u8 (mv A (k * s)) (pieceOf l s N k).length (pieceOf l s N k) := by
  refine ⟨rfl, by have := h.2.1; have := piece_le l s N k; omega, fun h0 => ?_⟩
  have hle := piece_le l s N k
  have hA := hA.resolve_left (by omega)
  obtain ⟨b, off, rfl⟩ := hA
  have hget : ∀ j, j < l.length → W.cell? ⟨b, off + j, none⟩ = some (.int .u8 (l.getD j 0)) := by
    intro j hj
    obtain ⟨ad, e, hc⟩ := h.2.2 (by omega)
    cases e
    obtain ⟨cs, hl, hk, hcell⟩ := hc j l[j] (List.getElem?_eq_getElem hj)
    have hk' : cs = [Value.int .u8 l[j]] := hk
    subst hk'
    have := hcell 0 _ rfl
    rw [show j * (Kd.int .u8).sz + 0 = j from by simp [Kd.int, Kd.scalar]] at this
    rw [List.getD_eq_getElem?_getD, List.getElem?_eq_getElem hj, Option.getD_some, ← this]
    congr 1
    unfold Addr.add
    split
    · rename_i h; subst h; rfl
    · rfl
  have e : ∀ i, mv (some ⟨b, off, none⟩) i = some ⟨b, off + i, none⟩ := by
    intro i
    unfold mv
    split
    · rename_i h; subst h; rfl
    · rfl
  refine ⟨_, e _, fun j hj => ?_⟩
  have hpl := piece_len h2 k
  have hlt : k * s + j < l.length := by
    unfold pieceOf at hj
    split at hj
    · rename_i hk; have := h2 k hk; rw [List.length_take, List.length_drop] at hj; omega
    · rw [List.length_drop] at hj; omega
  have hv : (pieceOf l s N k).getD j 0 = l.getD (k * s + j) 0 := by
    have h1 : (pieceOf l s N k)[j]? = l[k * s + j]? := by
      unfold pieceOf at hj ⊢
      split
      · rename_i hk
        rw [if_pos hk] at hj
        rw [List.length_take] at hj
        rw [List.getElem?_take_of_lt (by omega), List.getElem?_drop]
      · rw [List.getElem?_drop]
    rw [List.getD_eq_getElem?_getD, List.getD_eq_getElem?_getD, h1]
  rw [hv, ← hget _ hlt]
  congr 1
  unfold Addr.add
  split
  · rename_i h; subst h; rfl
  · simp [Nat.add_assoc]
theorem piece_seg {N k : Nat} {la : Bool} (h : (!decide (k + 1 < N)) = la) (l id : List Int) (s : Nat) : segOf l id s N k =
    (let n : Int := 2 + (((if k = 0 then id else []) ++ pieceOf l s N k).length : Int) + (if la = true then 0 else 32768); [n / 256 % 256, n % 256] ++ ((if k = 0 then id else []) ++ pieceOf l s N k)) := by
  subst h
  unfold segOf
  by_cases hk : k + 1 < N <;> simp [hk]
set_option maxRecDepth 100000 in
set_option maxHeartbeats 2000000 in
theorem write_full (a0 : Int) (A : Option Addr) (c : Nat) (l : List Int) (a1 : Int) (w : World) (hr : Kd.C (Kd.int .u8) w A l.length l) (hc : l.length ≤ c)
    (h1 : 1 ≤ a1) (h2 : a1 ≤ 2048) (h3 : 0 ≤ a0) (h4 : a0 ≤ 65535) (h5 : l.length ≤ 2048) (h6 : (l.length : Int) ≤ a1 * 64) :
    Calls Try.prog 20 #[.agg #[.int .i64 a0, .slice A l.length c], .int .i64 a1] w fun e w' => ∃ v0_ : Value, e = .returned (.tuple #[v0_, .int .i64 0]) ∧
      Kd.R (Kd.int .u8) 5 w' w.heap.size (fun _ => True) v0_ (segsOf l [a0 / 256, a0 % 256] a1.toNat (countOf l.length a1.toNat) (countOf l.length a1.toNat)) ∧ Below w.heap.size w w' := by
  obtain ⟨i0, hi, hz0, hz1, hz2⟩ := info_parts info5
  obtain ⟨s, rfl⟩ := Int.eq_ofNat_of_zero_le (show 0 ≤ a1 by omega)
  obtain ⟨n1, n2, n3⟩ := count_facts l.length s (by omega)
  have hA : l.length = 0 ∨ ∃ b off, A = some ⟨b, off, none⟩ := addr_of hr
  simp only [Int.toNat_natCast]
  generalize countOf l.length s = N at *
  have HhA := Lib.hid hA
  clear hA
  have Hn1 := Lib.hid n1
  clear n1
  have Hn2 := Lib.hid n2
  clear n2
  have Hn3 := Lib.hid n3
  clear n3
  refine (callsIn_wide (n := 5)).1 ?_
  refine callsIn_of_wp_marks Try.func20 rfl trivial ?_ rfl
  simp only [Try.ntmps20, List.size_toArray, List.length_cons, List.length_nil, Nat.reduceAdd, Nat.reduceSub, Array.replicate_succ, Array.replicate_zero, List.push_toArray, List.append_toArray, List.nil_append, List.cons_append]
  gi_wp2_with (refine ⟨trivial, ?_⟩; gi_at_call 33; refine (pieces_in Fence.wide _ trivial rfl _ _ _ _ _).mono ?_; rintro e w' ⟨rfl, rfl⟩)
  obtain ⟨b0, hb0⟩ : ∃ b0, w.heap.size = b0 := ⟨_, rfl⟩
  rw [hb0]
  obtain ⟨w4, hw4⟩ : ∃ w4, ((((w.alloc (Obj.cells #[Value.int IntKind.i64 a0, Value.slice A l.length c] 47)).alloc (Obj.cells #[Value.slice none 0 0] 27)).alloc (Obj.cells #[Value.slice A l.length c] 27)).alloc (Obj.cells #[Value.int IntKind.i64 ↑s] 3)) = w4 := ⟨_, rfl⟩
  have hsz : w4.heap.size = b0 + 4 := by rw [← hw4, ← hb0]; simp
  have k0 : w4.heap[b0]? = some (.cells #[Value.int IntKind.i64 a0, Value.slice A l.length c] 47 (0, 0)) := by
    rw [← hw4, ← hb0]
    exact (Below.heap_alloc _ _ _ (by simp; omega)).trans ((Below.heap_alloc _ _ _ (by simp; omega)).trans ((Below.heap_alloc _ _ _ (by simp)).trans (World.alloc_heap_new w _)))
  have k1 : Boxed w4 (b0 + 1) 27 (.slice none 0 0) := by
    rw [← hw4, ← hb0]
    have := Boxed.new (w.alloc (Obj.cells #[Value.int IntKind.i64 a0, Value.slice A l.length c] 47)) 27 (.slice none 0 0)
    rw [World.size_alloc] at this
    exact (this.alloc _).alloc _
  have k2 : Boxed w4 (b0 + 2) 27 (.slice A l.length c) := by
    rw [← hw4, ← hb0]
    have := Boxed.new ((w.alloc (Obj.cells #[Value.int IntKind.i64 a0, Value.slice A l.length c] 47)).alloc (Obj.cells #[Value.slice none 0 0] 27)) 27 (.slice A l.length c)
    rw [World.size_alloc, World.size_alloc] at this
    exact this.alloc _
  have k3 : Boxed w4 (b0 + 3) 3 (.int .i64 s) := by
    rw [← hw4, ← hb0]
    have := Boxed.new (((w.alloc (Obj.cells #[Value.int IntKind.i64 a0, Value.slice A l.length c] 47)).alloc (Obj.cells #[Value.slice none 0 0] 27)).alloc (Obj.cells #[Value.slice A l.length c] 27)) 3 (.int .i64 s)
    rw [World.size_alloc, World.size_alloc, World.size_alloc] at this
    exact this
  have hB4 : Below b0 w w4 := by
    rw [← hw4, ← hb0]
    exact ((((Below.refl _ _).alloc (Nat.le_refl _) _).alloc (by simp) _).alloc (by simp; omega) _).alloc (by simp; omega) _
  rw [hw4]
  refine range_all (gf := 39) (lb := #[.pointer (some ⟨b0 + 2, 0, none⟩), .pointer (some ⟨b0 + 3, 0, none⟩)]) rfl (by omega) rfl trivial (enters_of Try.func39 (by kernel_rfl) rfl)
    (pieces_all Fence.wide 4 trivial rfl (by omega) (b0 + 2) (b0 + 3) A l.length c s N HhA.out (by omega) hc (by omega) (by omega) Hn1.out Hn2.out Hn3.out w4 k2.cell k2.frozen k3.cell)
    (fun h k => ⟨k.1.trans h.1, k.2.trans h.2⟩) (fun o o' => keep2_alloc (by omega) (by omega)) (fun W o' => keep2_put (by omega) (by omega)) (fun _ => rfl)
    (InvW w b0 (.cells #[Value.int IntKind.i64 a0, Value.slice A l.length c] 47 (0, 0)) l [a0 / 256, a0 % 256] s N)
    ?ia ?ib ?tn ⟨⟨_, k1, World.ownsRow_nil _ _ _ _, by simp⟩, k0, hB4, by omega⟩
    (fun k => { tmps := #[Value.agg #[Value.int IntKind.i64 a0, Value.slice A l.length c], Value.int IntKind.i64 ↑s,
          Value.pointer (some { block := b0, off := 0 }), undef, Value.slice none 0 0, Value.int IntKind.i64 0,
          Value.pointer (some { block := b0 + 1, off := 0 }), .slice (mv A (k * s)) (if k + 1 < N then s else l.length - k * s) (c - k * s), .bool (!decide (k + 1 < N)), undef, undef,
          Value.bool (decide ((s : Int) < 1) || decide (2048 < (s : Int))), Value.int IntKind.i64 ↑s, Value.bool (decide ((s : Int) < 1)),
          Value.bool (decide ((s : Int) < 1)), Value.int IntKind.i64 ↑s, Value.bool (decide (2048 < (s : Int))),
          Value.bool (decide ((s : Int) < 1) || decide (2048 < (s : Int))),
          Value.bool (decide (a0 < 0) || decide (65535 < a0) || decide (2048 < (l.length : Int))),
          Value.pointer (some { block := b0, off := 0 }), Value.int IntKind.i64 a0,
          Value.bool (decide (a0 < 0)), Value.bool (decide (a0 < 0)),
          Value.pointer (some { block := b0, off := 0 }), Value.int IntKind.i64 a0,
          Value.bool (decide (65535 < a0)), Value.bool (decide (a0 < 0) || decide (65535 < a0)),
          Value.bool (decide (a0 < 0) || decide (65535 < a0)), Value.pointer (some { block := b0, off := 1 }),
          Value.slice A l.length c, Value.int IntKind.i64 ↑l.length, Value.bool (decide (2048 < (l.length : Int))),
          Value.bool (decide (a0 < 0) || decide (65535 < a0) || decide (2048 < (l.length : Int))),
          Value.bool (decide ((s : Int) * 64 < (l.length : Int))), Value.pointer (some { block := b0, off := 1 }),
          Value.slice A l.length c, Value.int IntKind.i64 ↑l.length, Value.int IntKind.i64 ↑s,
          Value.int IntKind.i64 ((s : Int) * 64), Value.bool (decide ((s : Int) * 64 < (l.length : Int))),
          Value.pointer (some { block := b0, off := 1 }), Value.slice A l.length c, Value.int IntKind.i64 ↑s,
          Value.func (Fn.func 39) #[] #[Value.pointer (some ⟨b0 + 2, 0, none⟩), .pointer (some ⟨b0 + 3, 0, none⟩)],
          .slice (mv A (k * s)) (if k + 1 < N then s else l.length - k * s) (c - k * s), .bool (!decide (k + 1 < N)), undef, undef, undef, undef, undef, undef, undef, undef, undef, undef, undef, undef, undef, undef, undef, undef, undef, undef, undef, undef, undef, undef, undef, undef, undef, undef, undef, undef, undef, undef, undef, undef, undef, undef, undef, undef, undef], defers := [] }) ?assign ?body ?done
  case ia =>
    rintro o o' ⟨⟨v, hv, hrow, hnil⟩, hS, hB, hsW⟩
    exact ⟨⟨v, (hv.alloc _).alloc _, (hrow.alloc _).alloc _, hnil⟩, (Below.heap_alloc _ _ _ (by simp; omega)).trans ((Below.heap_alloc _ _ _ (by omega)).trans hS), (hB.alloc (by omega) _).alloc (by simp; omega) _, by simp; omega⟩
  case ib =>
    rintro k W o o' ho hno ⟨⟨v, hv, hrow, hnil⟩, hS, hB, hsW⟩
    refine ⟨⟨v, (World.putObj_heap_other (by omega)).trans hv, ownsRow_putObj hrow _ ho hno, hnil⟩, (World.putObj_heap_other (by omega)).trans hS, hB.grown (grownBy_putObj' W _ _) (by omega) (fun k e => by cases e; omega), by simp; omega⟩
  case tn =>
    rintro J0 hJ k W v ⟨⟨⟨u, hv, hrow, hnil⟩, hS, hB, hsW⟩, hj⟩
    refine ⟨⟨⟨u, (Below.heap_setCell _ _ _ _ (by simp)).trans hv, own_setCell hrow (fun e => by have h : b0 + 4 ≤ b0 + 2 := own_base hrow _ e.symm; omega) _, hnil⟩, (Below.heap_setCell _ _ _ _ (by simp)).trans hS, hB.setCell (p := ⟨b0 + 2, 0, none⟩) (by simp) _, ?_⟩, hJ _ _ _ (by omega) hj⟩
    have : (W.setCell ⟨b0 + 2, 0, none⟩ v).heap.size = W.heap.size := by simp [World.setCell]
    omega
  case assign =>
    intro q k W K hK
    revert hK
    generalize (if k + 1 < N then s else l.length - k * s) = m
    generalize (!decide (k + 1 < N)) = la
    intro hK
    gi_wp2
    exact hK
  case body =>
    rintro q k W ⟨⟨v, hv, hrow, hnil⟩, hS, hB, hsW⟩ hk
    have hp : (pieceOf l s N k).length = (if k + 1 < N then s else l.length - k * s) := piece_len Hn2.out k
    have HR : Hid (∀ W', Below b0 w W' → ReadsInt W' .u8 (mv A (k * s)) (pieceOf l s N k).length (pieceOf l s N k)) := Lib.hid fun W' hB => piece_reads (hr_below hr hB hb0) HhA.out Hn2.out k
    have hm2 : (pieceOf l s N k).length ≤ 2048 := by have := piece_le l s N k; omega
    obtain ⟨la, hla⟩ : ∃ la, (!decide (k + 1 < N)) = la := ⟨_, rfl⟩
    rw [← hp, hla]
    have hn := piece_seg hla l [a0 / 256, a0 % 256] s
    have Hla := Lib.hid hla
    have Hp := Lib.hid hp
    clear hla hp
    generalize pieceOf l s N k = pc at *
    have hc1 := hv.cell
    have hf1 := hv.frozen
    have hs0 : W.cell? ⟨b0, 0, none⟩ = some (.int .i64 a0) := by simp [World.cell?, hS]
    have hlt : b0 + 1 < W.heap.size := hv.lt
    have hlt0 : b0 < W.heap.size := by omega
    have hsl := fun (W : World) (a : Option Addr) (n c : Nat) => Lib.run_eql_slice_nil (P := Try.prog) W 27 5 a n c 0 0 Try.underlying27
    have hsl2 : (segsOf l [a0 / 256, a0 % 256] s N k).length ≤ 10000000 := segs_bound (by omega) Hn2.out (by omega) h5 rfl
    by_cases h0 : k = 0
    · subst h0
      obtain rfl : v = .slice none 0 0 := hnil.2 rfl
      have hlit := (own_lit W W.heap.size 5 .u8 [0, 0] (Nat.le_refl _) (by decide)).alloc (.cells (nums .u8 [a0 / 256, a0 % 256]).toArray 5)
      have hrd := reads_own (own_lit (W.alloc (.cells (nums .u8 [0, 0]).toArray 5)) 0 5 .u8 [a0 / 256, a0 % 256] (by omega) (by simp)) (by simp)
      rw [World.size_alloc] at hrd
      have Hl := Lib.hid hlit
      have Hr := Lib.hid hrd
      clear hlit hrd
      gi_wp2_with (gi_at_builtin; refine app_in _ rfl _ _ 27 rfl W.heap.size 5 i0 Try.underlying27 hi hz0 hz1 hz2 _ [0, 0] [a0 / 256, a0 % 256] _ 2 _ rfl Hl.out rfl Hr.out (by decide) (by simp; omega) ?_; intro v1 w1 hown1 hg1 hn1)
      obtain ⟨g, cap, rfl⟩ := ownsRow_succ (k := 3) hown1
      have hgb := own_base hown1 g rfl
      have hb1 : Below W.heap.size W w1 := below_grown2 hg1 (by intro k e; cases e; exact Nat.le_refl _)
      have hv1 : Boxed w1 (b0 + 1) 27 (.slice none 0 0) := (hb1.block _ hlt).trans hv
      have hc2 := hv1.cell
      have hf2 := hv1.frozen
      have hgne : ¬ (b0 + 1 = g) := by omega
      have hgne' : ¬ (g = b0 + 1) := by omega
      have hx0 : w1.cell? ⟨g, 0, none⟩ = some (.int .u8 0) ∧ w1.frozen? ⟨g, 0, none⟩ = false := own_at (xs := [0, 0, a0 / 256, a0 % 256]) hown1 0 (by omega) (by simp)
      have hx1 : w1.cell? ⟨g, 1, none⟩ = some (.int .u8 0) ∧ w1.frozen? ⟨g, 1, none⟩ = false := own_at (xs := [0, 0, a0 / 256, a0 % 256]) hown1 1 (by omega) (by simp)
      obtain ⟨hg0, hgf0⟩ := hx0
      obtain ⟨hg1', hgf1⟩ := hx1
      have Ho1 := Lib.hid hown1
      have Hg1 := Lib.hid hg1
      clear hown1 hg1 hn1 hc1 hf1 hs0
      have Hw2 : ∀ x y : Int, Hid (Below W.heap.size W ((w1.setCell ⟨g, 0, none⟩ (.int .u8 x)).setCell ⟨g, 1, none⟩ (.int .u8 y)) ∧ KeepsOthers W ((w1.setCell ⟨g, 0, none⟩ (.int .u8 x)).setCell ⟨g, 1, none⟩ (.int .u8 y)) ∧
          ReadsInt ((w1.setCell ⟨g, 0, none⟩ (.int .u8 x)).setCell ⟨g, 1, none⟩ (.int .u8 y)) .u8 (some ⟨g, 0, none⟩) 4 ([x, y] ++ [a0 / 256, a0 % 256])) := fun x y => Lib.hid
        ⟨(hb1.setCell (p := ⟨g, 0, none⟩) hgb _).setCell (p := ⟨g, 1, none⟩) hgb _, (((KeepsOthers.alloc _ _).trans (KeepsOthers.alloc _ _)).trans (KeepsOthers.of_grownBy Hg1.out (own_cells Hl.out))).trans ((KeepsOthers.setCell _ _ _).trans (KeepsOthers.setCell _ _ _)),
         reads_set2 (xs := [a0 / 256, a0 % 256]) (n := 4) Ho1.out (by omega) x y⟩
      refine stop ?_
      gi_wp2_with (gi_at_builtin; refine stop' ?_)
      all_goals
        refine stop ?_
        refine app_in _ rfl _ _ 27 rfl (b0 + 4) 5 i0 Try.underlying27 hi hz0 hz1 hz2 _ _ ([_, _] ++ [a0 / 256, a0 % 256]) _ 4 _ rfl (own_below hrow (Hw2 _ _).out.1) rfl (Hw2 _ _).out.2.2 (by simp [segsOf]) (by have := (Hw2 0 0).out.1.size; simp at this ⊢; omega) ?_
        intro v2 w3 hown2 hg2 hn2
        obtain ⟨hB3, h3, hs3⟩ := mid hB hsW hrow (Hw2 _ _).out.1 hg2
        refine stop ?_
        gi_wp2_with (gi_at_builtin; refine stop' ?_)
        refine stop ?_
        refine app_in _ rfl _ _ 27 rfl (b0 + 4) 5 i0 Try.underlying27 hi hz0 hz1 hz2 _ _ pc _ _ _ rfl hown2 rfl (by simpa using HR.out _ hB3) (by simp [segsOf]; omega) hs3 ?_
        intro v3 w4' hown3 hg3 hn3
        have hv4 : Boxed w4' (b0 + 1) 27 (.slice none 0 0) := (hg3.block _ (by omega) (fun e => by have h : b0 + 4 ≤ b0 + 1 := own_base hown2 _ e.symm; omega)).trans ((h3 _ (by omega)).trans hv)
        obtain ⟨A3, n3, c3, rfl⟩ := own_slice hown3
        have hfin := fin_ (k := 0) hB hsW hS hv hrow (Hw2 _ _).out.1 (Hw2 _ _).out.2.1 hg2 hown2 hg3 hown3 hn2 (by omega) hn3 (last_eq hn (by simp) (by first | (rw [if_pos (by simpa using ‹(!la) = false›)]; simp <;> omega) | (rw [if_neg (by simpa using ‹(!la) = true›)]; simp <;> omega)) (by omega))
        have Hf := Lib.hid hfin
        have hc4 := hv4.cell
        have hf4 := hv4.frozen
        clear hfin hown2 hg2 hn2 hown3 hg3 hn3 hv4
        refine stop ?_
        gi_wp2
        exact ⟨Hf.out.1, Hf.out.2⟩
    · have hvn : v ≠ .slice none 0 0 := fun e => h0 (hnil.1 e)
      obtain ⟨gv, cv, rfl, hlv⟩ := own_some hrow hvn
      have hlit := own_lit W W.heap.size 5 .u8 [0, 0] (Nat.le_refl _) (by decide)
      have Hw2 : ∀ x y : Int, Hid (Below W.heap.size W (W.alloc (.cells #[.int .u8 x, .int .u8 y] 5)) ∧ KeepsOthers W (W.alloc (.cells #[.int .u8 x, .int .u8 y] 5)) ∧
          ReadsInt (W.alloc (.cells #[.int .u8 x, .int .u8 y] 5)) .u8 (some ⟨W.heap.size, 0, none⟩) 2 ([x, y] ++ [])) := fun x y => Lib.hid
        ⟨(Below.refl _ _).alloc (Nat.le_refl _) _, KeepsOthers.alloc _ _, reads_own (own_lit W 0 5 .u8 [x, y] (by omega) (by simp)) (by omega)⟩
      clear hlit
      gi_wp2_with (gi_at_builtin; refine stop' ?_)
      all_goals
        refine stop ?_
        refine app_in _ rfl _ _ 27 rfl (b0 + 4) 5 i0 Try.underlying27 hi hz0 hz1 hz2 _ _ ([_, _] ++ []) _ 2 _ rfl (own_below hrow (Hw2 _ _).out.1) rfl (Hw2 _ _).out.2.2 (by omega) (by have := (Hw2 0 0).out.1.size; simp at this ⊢; omega) ?_
        intro v2 w3 hown2 hg2 hn2
        obtain ⟨hB3, h3, hs3⟩ := mid hB hsW hrow (Hw2 _ _).out.1 hg2
        refine stop ?_
        gi_wp2_with (gi_at_builtin; refine stop' ?_)
        refine stop ?_
        refine app_in _ rfl _ _ 27 rfl (b0 + 4) 5 i0 Try.underlying27 hi hz0 hz1 hz2 _ _ pc _ _ _ rfl hown2 rfl (HR.out _ hB3) (by simp <;> omega) hs3 ?_
        intro v3 w4' hown3 hg3 hn3
        have hv4 : Boxed w4' (b0 + 1) 27 _ := (hg3.block _ (by omega) (fun e => by have h : b0 + 4 ≤ b0 + 1 := own_base hown2 _ e.symm; omega)).trans ((h3 _ (by omega)).trans hv)
        obtain ⟨A3, n3, c3, rfl⟩ := own_slice hown3
        have hfin := fin_ (k := k) hB hsW hS hv hrow (Hw2 _ _).out.1 (Hw2 _ _).out.2.1 hg2 hown2 hg3 hown3 hn2 (by omega) hn3 (last_eq hn (by simp [h0]) (by first | (rw [if_pos (by simpa using ‹(!la) = false›)]; simp <;> omega) | (rw [if_neg (by simpa using ‹(!la) = true›)]; simp <;> omega)) (by omega))
        have Hf := Lib.hid hfin
        have hc4 := hv4.cell
        have hf4 := hv4.frozen
        clear hfin hown2 hg2 hn2 hown3 hg3 hn3 hv4
        refine stop ?_
        gi_wp2
        exact ⟨Hf.out.1, Hf.out.2⟩
  case done =>
    rintro W ⟨⟨v, hv, hrow, hnil⟩, hS, hB, hsW⟩ hD
    obtain ⟨A3, n3, c3, rfl⟩ := own_slice hrow
    have hc1 := hv.cell
    gi_wp2
    have hK := hD
    refine ⟨by simp, .inl ⟨_, _, rfl, run_takeDeferred hK, ?_⟩⟩
    refine ⟨_, results_tmp2 rfl _ _ _, _, rfl, ?_, ?_⟩
    · exact Kd.R_of_own (ownsRow_putObj (own_weaken hrow (by omega)) _ hK rfl) (fun _ _ => trivial)
    · rw [hb0]
      exact hB.grown (grownBy_putObj' W _ _) (by omega) (fun k e => by cases e; omega)
set_option maxHeartbeats 1000000 in
theorem write_no (a0 : Int) (A : Option Addr) (c : Nat) (l : List Int) (a1 r : Int) (w : World) (hr : Kd.C (Kd.int .u8) w A l.length l)
    (h : ((a1 < 1 ∨ 2048 < a1) ∧ r = 1) ∨ ((1 ≤ a1 ∧ a1 ≤ 2048) ∧ (a0 < 0 ∨ 65535 < a0 ∨ 2048 < (l.length : Int)) ∧ r = 40) ∨ ((1 ≤ a1 ∧ a1 ≤ 2048) ∧ (0 ≤ a0 ∧ a0 ≤ 65535 ∧ (l.length : Int) ≤ 2048) ∧ a1 * 64 < l.length ∧ r = 5)) :
    Calls Try.prog 20 #[.agg #[.int .i64 a0, .slice A l.length c], .int .i64 a1] w fun e w' => ∃ v0_ : Value, e = .returned (.tuple #[v0_, .int .i64 r]) ∧
      Kd.R (Kd.int .u8) 5 w' w.heap.size (fun _ => True) v0_ [] ∧ Below w.heap.size w w' := by
  have fin : ∀ a : Act, a.tmps.getD 4 undef = .slice none 0 0 → a.tmps.getD 5 undef = .int .i64 r → ∀ S, Below w.heap.size w (w.alloc S) := fun _ _ _ S => (Below.refl _ _).alloc (Nat.le_refl _) _
  clear fin
  rcases h with ⟨h, rfl⟩ | ⟨⟨ha, hb⟩, h, rfl⟩ | ⟨⟨ha, hb⟩, ⟨h1, h2, h3⟩, h4, rfl⟩
  · rcases h with h | h
    · go_enter Try.func20, Try.ntmps20
      go_wp2
      go_ret2
      exact ⟨_, rfl, Kd.R_nil _ _ _ _ _, (Below.refl _ _).alloc (Nat.le_refl _) _⟩
    · have h' : ¬ a1 < 1 := by omega
      go_enter Try.func20, Try.ntmps20
      go_wp2
      go_ret2
      exact ⟨_, rfl, Kd.R_nil _ _ _ _ _, (Below.refl _ _).alloc (Nat.le_refl _) _⟩
  · have h1' : ¬ a1 < 1 := by omega
    have h2' : ¬ 2048 < a1 := by omega
    rcases h with h | h | h
    · go_enter Try.func20, Try.ntmps20
      go_wp2
      go_ret2
      exact ⟨_, rfl, Kd.R_nil _ _ _ _ _, (Below.refl _ _).alloc (Nat.le_refl _) _⟩
    · have h' : ¬ a0 < 0 := by omega
      go_enter Try.func20, Try.ntmps20
      go_wp2
      go_ret2
      exact ⟨_, rfl, Kd.R_nil _ _ _ _ _, (Below.refl _ _).alloc (Nat.le_refl _) _⟩
    · by_cases h' : a0 < 0
      · go_enter Try.func20, Try.ntmps20
        go_wp2
        go_ret2
        exact ⟨_, rfl, Kd.R_nil _ _ _ _ _, (Below.refl _ _).alloc (Nat.le_refl _) _⟩
      · by_cases h'' : 65535 < a0
        · go_enter Try.func20, Try.ntmps20
          go_wp2
          go_ret2
          exact ⟨_, rfl, Kd.R_nil _ _ _ _ _, (Below.refl _ _).alloc (Nat.le_refl _) _⟩
        · go_enter Try.func20, Try.ntmps20
          go_wp2
          go_ret2
          exact ⟨_, rfl, Kd.R_nil _ _ _ _ _, (Below.refl _ _).alloc (Nat.le_refl _) _⟩
  · have h1' : ¬ a1 < 1 := by omega
    have h2' : ¬ 2048 < a1 := by omega
    have h3' : ¬ a0 < 0 := by omega
    have h4' : ¬ 65535 < a0 := by omega
    have h5' : ¬ 2048 < (l.length : Int) := by omega
    go_enter Try.func20, Try.ntmps20
    go_wp2
    go_ret2
    exact ⟨_, rfl, Kd.R_nil _ _ _ _ _, (Below.refl _ _).alloc (Nat.le_refl _) _⟩
theorem gds_Write.calls (a0_0 : Int) (A0_1 : Option Addr) (c0_1 : Nat) (l0_1 : List Int) (a1 : Int) (r1 : List Int) (r2 : Int) (w : World) (hr0_1 : Kd.C (Kd.int .u8) w A0_1 l0_1.length l0_1) (hc0_1 : l0_1.length ≤ c0_1) (h : gds_Write.f a0_0 l0_1 a1 = some (r1, r2)) :
    Calls Try.prog 20 #[.agg #[.int .i64 a0_0, .slice A0_1 l0_1.length c0_1], .int .i64 a1] w fun e w' => ∃ v0_ : Value, e = .returned (.tuple #[v0_, .int .i64 r2]) ∧ Kd.R (Kd.int .u8) 5 w' w.heap.size (fun _ => True) v0_ r1 ∧ Below w.heap.size w w' := by
  unfold gds_Write.f at h
  by_cases c1 : a1 < 1 ∨ 2048 < a1
  · rw [if_pos c1] at h; cases h
    exact write_no _ _ _ _ _ _ _ hr0_1 (.inl ⟨c1, rfl⟩)
  · rw [if_neg c1] at h
    by_cases c2 : a0_0 < 0 ∨ 65535 < a0_0 ∨ 2048 < (l0_1.length : Int)
    · rw [if_pos c2] at h; cases h
      exact write_no _ _ _ _ _ _ _ hr0_1 (.inr (.inl ⟨by omega, c2, rfl⟩))
    · rw [if_neg c2] at h
      by_cases c3 : a1 * 64 < (l0_1.length : Int)
      · rw [if_pos c3] at h; cases h
        exact write_no _ _ _ _ _ _ _ hr0_1 (.inr (.inr ⟨by omega, by omega, c3, rfl⟩))
      · rw [if_neg c3] at h; cases h
        exact write_full _ _ _ _ _ _ hr0_1 hc0_1 (by omega) (by omega) (by omega) (by omega) (by omega) (by omega)
#print axioms gds_Write.calls
end Go.Proofs.Ytfndcfffbpbbhaa.Q
