/- Rows whose bytes are cut short: what a Reader takes of them. And: what a mask leaves, an append of a number. -/
import Derived.Test.YtlknlpiiogmfbaaApp
import Derived.Test.YtlknlpiiogmfbaaProg
import Derived.Test.YtlknlpiiogmfbaaOctet
namespace Go.Proofs.Ytlknlpiiogmfbaa.O
open Go.RowKit H

theorem decF_short : ∀ (v i u m : Nat) (r : List Int), m < (enc v).length → decF i u ((enc v ++ r).take m) = none := by
  intro v
  induction v using Nat.strongRecOn with
  | _ v ih =>
    intro i u m r hm
    cases m with
    | zero => rfl
    | succ m =>
      by_cases h : v < 128
      · rw [enc_lo h] at hm
        simp at hm
      · rw [enc_hi h] at hm ⊢
        rw [List.cons_append, List.take_succ_cons]
        simp only [decF]
        split
        · rfl
        · rw [if_neg (by omega)]
          exact ih (v / 128) (by omega) _ _ m r (by simpa using hm)
theorem dec_short (n : Int) (m : Nat) (r : List Int) (h : m < (num n).length) : dec ((num n ++ r).take m) = none := decF_short _ _ _ _ _ h
theorem stBytes_none : stBytes none = ([], none) := rfl
theorem stBytes_cut (x r : List Int) (m : Nat) (hx : x.length ≤ 4611686018427387904) :
    stBytes (some ((row x ++ r).take m)) = if (row x).length ≤ m then (x, some (r.take (m - (row x).length))) else ([], none) := by
  by_cases h : (row x).length ≤ m
  · rw [if_pos h, List.take_append, List.take_of_length_le h]
    exact stBytes_row x _ hx
  · rw [if_neg h]
    unfold row at h ⊢
    rw [List.append_assoc]
    by_cases h2 : m < (num x.length).length
    · simp only [stBytes, stNum, dec_short _ _ _ h2]
      rfl
    · have h3 : (num x.length ++ (x ++ r)).take m = num x.length ++ (x ++ r).take (m - (num x.length).length) := by
        rw [List.take_append, List.take_of_length_le (by omega)]
      rw [List.length_append] at h
      have h4 : ((x ++ r).take (m - (num x.length).length)).length < x.length := by rw [List.length_take]; omega
      simp only [stBytes]
      rw [h3, stNum_num]
      simp only [stRaw]
      have h5 := cl_of (n := (x.length : Int)) (by omega) (by omega)
      rw [if_pos (by omega)]

/-- What is left of the rows behind the k-th, of m bytes in all. -/
def cutSt (l : List (List Int)) (m k : Nat) : Option (List Int) :=
  if (rows (l.take k)).length ≤ m then some ((rows (l.drop k)).take (m - (rows (l.take k)).length)) else none
theorem cutSt_zero (l : List (List Int)) (m : Nat) : cutSt l m 0 = some ((rows l).take m) := by simp [cutSt, rows]
theorem cutSt_step (l : List (List Int)) (m k : Nat) (h : k < l.length) (hx : l[k].length ≤ 4611686018427387904) :
    stBytes (cutSt l m k) = if (rows (l.take (k + 1))).length ≤ m then (l[k], cutSt l m (k + 1)) else ([], cutSt l m (k + 1)) := by
  have e := congrArg List.length (rows_step l k h)
  rw [List.length_append] at e
  unfold cutSt
  by_cases h1 : (rows (l.take k)).length ≤ m
  · rw [if_pos h1, List.drop_eq_getElem_cons h, rows_cons, stBytes_cut _ _ _ hx]
    by_cases h2 : (rows (l.take (k + 1))).length ≤ m
    · rw [if_pos h2, if_pos h2, if_pos (by omega), e]
      congr 3
      omega
    · rw [if_neg h2, if_neg h2, if_neg (by omega)]
  · rw [if_neg h1, if_neg (by omega), if_neg (by omega)]
    rfl
theorem cutSt_end (l : List (List Int)) (m : Nat) (h : m < (rows l).length) : cutSt l m l.length = none := by
  unfold cutSt
  rw [List.take_length, if_neg (by omega)]
theorem cutSt_left (l : List (List Int)) (m k : Nat) : (left (cutSt l m k)).length ≤ m := by
  unfold cutSt
  split
  · simp only [left, Option.getD_some, List.length_take]; omega
  · simp [left]
/-- a mask's bits are below it -/
theorem mask30 (a : Int) : ∃ q : Nat, bits .and .i64 a 1073741823 = (q : Int) ∧ q < 1073741824 := by
  have h1 : (BitVec.ofInt 64 (1073741823 : Int)).toNat = 1073741823 := by decide
  have h : (BitVec.ofInt 64 a &&& BitVec.ofInt 64 1073741823).toNat ≤ 1073741823 := by
    rw [BitVec.toNat_and, h1]
    exact Nat.and_le_right
  refine ⟨(BitVec.ofInt 64 a &&& BitVec.ofInt 64 1073741823).toNat, ?_, by omega⟩
  show IntKind.i64.wrap (((BitVec.ofInt 64 a &&& BitVec.ofInt 64 1073741823).toNat : Nat) : Int) = _
  rw [IntKind.wrap_i64]
  omega

theorem info_i64 : (Try.prog.info? 3).map (fun i => (i.zero, i.size, i.bytes)) = some (some (.int .i64 0), 1, 8) := by kernel_rfl
/-- append of one number onto a row of the call's own -/
theorem app64_one {w : World} {ops : Array Oper} {rest : List Oper} {o : Oper} {a : Act} {Q : Exit → Act → World → Prop} (hgd : o.guard = none) (s x : Operand)
    (ho : o.op = .call { callee := .builtin .append, args := #[s, x], argTypes := #[36, 36] })
    (v : Value) (n : Nat) (xs : List Value) (hs : a.eval s = v) (hown : w.ownsRow 0 3 1 v n xs) (y : Int)
    (hx : a.eval x = .slice (some ⟨w.heap.size, 0, none⟩) 1 1) (hm : n + 1 ≤ 17592186044416)
    (h : ∀ v' w', w'.ownsRow 0 3 1 v' (n + 1) (xs ++ [.int .i64 y]) → Kp v.ownBlock.toList (w.alloc (.cells #[.int .i64 y] 3)) w' → At (w.heap.size + 1) v.ownBlock v'.ownBlock →
      wpList Try.prog ops Q rest (a.put o.dst v') w') : wpList Try.prog ops Q (o :: rest) a (w.alloc (.cells #[.int .i64 y] 3)) :=
  wpList_app hgd s x 36 ho 3 (.int .i64 0) 1 8 Try.underlying36 info_i64 rfl (by decide) v n xs hs (hown.alloc _) (some ⟨w.heap.size, 0, none⟩) 1 1 [.int .i64 y] hx rfl (rd_one _ _ _) (by simp) (by simp [Value.oneCell'])
    (by omega) (by omega) (fun v' w' h1 h2 h3 _ => h v' w' h1 h2 (by simpa using h3))
end Go.Proofs.Ytlknlpiiogmfbaa.O
