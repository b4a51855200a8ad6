/- psh, plainly: messages and their bytes. -/
import Derived.Test.YtfndcfffbpbbhaaQPe
import Derived.Test.YtfndcfffbpbbhaaQPf
import Derived.Test.YtfndcfffbpbbhaaQAl
import Derived.Test.YtfndcfffbpbbhaaQx11
namespace Go.Proofs.Ytfndcfffbpbbhaa.Q
open Go.RowKit Go.Proofs.YtfndcfffbpbbhaaW.PrintWords Go.Proofs.YtfndcfffbpbbhaaW.PrintLast Go.Proofs.YtfndcfffbpbbhaaW.PrintMore
set_option linter.unusedVariables false
set_option linter.unusedSimpArgs false
def rightM (a b c d : Int) (m : Bool) (x y : Int) : Bool :=
 if a = 12 then decide (x ≠ 0 ∧ b = 0 ∧ c = 0 ∧ d = 0 ∧ m = false)
 else if a = 13 then decide (b = 0 ∧ c = 0 ∧ d = 0 ∧ m = false ∧ x = 0 ∧ y = 0)
 else decide (1 ≤ a ∧ a < 12 ∧ rightP b d = true ∧ (m = true → a = 9) ∧ x = 0 ∧ y = 0)
theorem psh_right_eq (a b c d : Int) (m : Bool) (x y : Int) : psh_Right.f a b c d m x y = some (rightM a b c d m x y) := by
 unfold psh_Right.f rightM
 simp only [right_eq, Option.bind_some]
 by_cases h12 : a = 12
 ·simp only [h12, if_true]
  by_cases hx : x = 0
  ·simp [hx]
  ·by_cases hb : b = 0 <;> by_cases hc : c = 0 <;> by_cases hd : d = 0 <;> cases m <;> simp [hx, hb, hc, hd]
 ·rw [if_neg h12, if_neg h12]
  by_cases h13 : a = 13
  ·simp only [h13, if_true]
   by_cases hb : b = 0 <;> by_cases hc : c = 0 <;> by_cases hd : d = 0 <;> cases m <;> by_cases hx : x = 0 <;> by_cases hy : y = 0 <;> simp [hx, hb, hc, hd, hy]
  ·rw [if_neg h13, if_neg h13]
   by_cases h1 : a ≥ 1
   ·rw [if_pos h1]
    by_cases h2 : a < 12
    ·rw [if_pos h2]
     cases hp : rightP b d <;> cases m <;> by_cases h9 : a = 9 <;> by_cases hx : x = 0 <;> by_cases hy : y = 0 <;> simp [h9, hx, hy, h2] <;> omega
    ·rw [if_neg h2, decide_eq_false (by omega)]
   ·rw [if_neg h1, decide_eq_false (by omega)]
def dataM (a b c d : Int) (m : Bool) (x y : Int) : List Int :=
 if a = 12 then fourOf x ++ fourOf y else if a = 13 then [] else nine b c d ++ [if m = true then 1 else 0]
def frameM (a b c d : Int) (m : Bool) (x y : Int) : List Int := [0, 4 + ((dataM a b c d m x y).length : Int), 19, a] ++ dataM a b c d m x y
theorem data_len (a b c d : Int) (m : Bool) (x y : Int) : (dataM a b c d m x y).length = if a = 12 then 8 else if a = 13 then 0 else 10 := by
 unfold dataM
 split
 ·rfl
 ·split
  ·rfl
  ·rfl
theorem right_kind {a b c d : Int} {m : Bool} {x y : Int} (h : rightM a b c d m x y = true) : 1 ≤ a ∧ a ≤ 13 := by
 unfold rightM at h
 split at h
 ·omega
 ·split at h
  ·omega
  ·rw [decide_eq_true_eq] at h; omega
theorem gds_small {a : Int} {data : List Int} (ha : 0 ≤ a ∧ a < 256) (hl : data.length ≤ 200) : gds_Write.f (4864 + a) data 2048 = some ([0, 4 + (data.length : Int), 19, a] ++ data, 0) := by
 unfold gds_Write.f
 rw [if_neg (by omega), if_neg (by omega), if_neg (by omega)]
 have hc : countOf data.length (2048 : Int).toNat = 1 := by
  rw [show (2048 : Int).toNat = 2048 from rfl]
  unfold countOf
  split
  ·rfl
  ·rw [Nat.div_eq_iff (by omega)]; omega
 rw [hc]
 obtain ⟨n, hn, hs⟩ := seg_form data ((4864 + a) / 256) ((4864 + a) % 256) (2048 : Int).toNat 1 0
 have h1 : segsOf data [(4864 + a) / 256, (4864 + a) % 256] (2048 : Int).toNat 1 1 = segOf data [(4864 + a) / 256, (4864 + a) % 256] (2048 : Int).toNat 1 0 := by simp [segsOf]
 rw [h1, hs]
 have hp : pieceOf data (2048 : Int).toNat 1 0 = data := by simp [pieceOf]
 rw [hp] at hn ⊢
 simp at hn
 have e1 : n / 256 % 256 = 0 := by omega
 have e2 : n % 256 = 4 + (data.length : Int) := by omega
 have e3 : (4864 + a) / 256 = 19 := by omega
 have e4 : (4864 + a) % 256 = a := by omega
 rw [e1, e2, e3, e4]
 rfl
end Go.Proofs.Ytfndcfffbpbbhaa.Q
namespace Go.Proofs.Ytfndcfffbpbbhaa.Q
open Go.RowKit Go.Proofs.YtfndcfffbpbbhaaW.PrintWords Go.Proofs.YtfndcfffbpbbhaaW.PrintLast Go.Proofs.YtfndcfffbpbbhaaW.PrintMore
set_option linter.unusedVariables false
set_option linter.unusedSimpArgs false
theorem alive6 : trothlaw06_alive.f = some true := by
 unfold trothlaw06_alive.f
 rw [fixed_write, fixed_none, fixed_read, fixed_name]
 simp only [Option.bind_some, if_true]
 rw [if_pos (by rw [ByteArray.toList_eq]; rfl), ByteArray.toList_eq]
 rfl
theorem four_bytes {x : Int} (h : U32b x) : Bytes (fourOf x) := by
 unfold U32b at h
 intro z hz
 simp only [fourOf, List.mem_cons, List.mem_nil_iff, or_false] at hz
 rcases hz with rfl | rfl | rfl | rfl <;> omega
theorem nine_bytes (u l q : Int) : Bytes (nine u l q) := by
 intro z hz
 simp only [nine, List.mem_cons, List.mem_nil_iff, or_false] at hz
 rcases hz with rfl | rfl | rfl | rfl | rfl | rfl | rfl | rfl | rfl <;> omega
theorem data_bytes {a b c d : Int} {m : Bool} {x y : Int} (hx : U32b x) (hy : U32b y) : Bytes (dataM a b c d m x y) := by
 unfold dataM
 split
 ·exact (four_bytes hx).app (four_bytes hy)
 ·split
  ·exact bytes_nil
  ·refine (nine_bytes b c d).app (fun z hz => ?_)
   rw [List.mem_singleton] at hz
   subst hz
   split <;> omega
theorem frame_bytes {a b c d : Int} {m : Bool} {x y : Int} (hx : U32b x) (hy : U32b y) (hr : rightM a b c d m x y = true) : Bytes (frameM a b c d m x y) := by
 have hk := right_kind hr
 have hl := data_len a b c d m x y
 refine Bytes.app (fun z hz => ?_) (data_bytes hx hy)
 simp only [List.mem_cons, List.mem_nil_iff, or_false] at hz
 have : (dataM a b c d m x y).length ≤ 10 := by rw [hl]; split <;> (try split) <;> omega
 rcases hz with rfl | rfl | rfl | rfl <;> omega
theorem nums_inj : ∀ {l l' : List Int}, Bytes l → Bytes l' → (strOfNums l).data.toList = (strOfNums l').data.toList → l = l'
 | [], [], _, _, _ => rfl
 | [], b :: l', _, _, e => by simp [strOfNums] at e
 | a :: l, [], _, _, e => by simp [strOfNums] at e
 | a :: l, b :: l', h, h', e => by
  simp only [strOfNums, List.map_cons, List.cons.injEq] at e
  have ih := nums_inj (l := l) (l' := l') (fun z hz => h z (List.mem_cons_of_mem _ hz)) (fun z hz => h' z (List.mem_cons_of_mem _ hz)) (by simp only [strOfNums]; exact e.2)
  have e1 := congrArg UInt8.toNat e.1
  have ha := h a (List.mem_cons_self ..)
  have hb := h' b (List.mem_cons_self ..)
  rw [UInt8.toNat_ofNat', UInt8.toNat_ofNat'] at e1
  have : a = b := by omega
  rw [this, ih]
theorem str_inj {l l' : List Int} (h : Bytes l) (h' : Bytes l') : (strOfNums l).toList = (strOfNums l').toList ↔ l = l' := by
 constructor
 ·intro e
  rw [ByteArray.toList_eq, ByteArray.toList_eq] at e
  exact nums_inj h h' e
 ·rintro rfl; rfl
end Go.Proofs.Ytfndcfffbpbbhaa.Q
