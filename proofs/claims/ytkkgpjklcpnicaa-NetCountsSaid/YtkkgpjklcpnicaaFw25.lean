/- The framework, part 25: types of arguments, by their forms alone. -/
import Derived.Test.YtkkgpjklcpnicaaFw24
import Derived.WalkKit
import Derived.ProofKit
import Derived.ChangeOld
namespace Stk
open Go Go.RowKit

inductive TyD where
  | bool
  | int (k : IntKind)
  | str
  | sl (esz : Nat) (e : TyD)
  | st (fs : List TyD)
  | arr (n : Nat) (e : TyD)
mutual
def TrD : TyD → Tr → Prop
  | .bool, x => ∃ b, x = .bool b
  | .int k, x => ∃ i, x = .int k i ∧ (Lit.int k i).wf = true
  | .str, x => ∃ s, x = .str s ∧ s.size ≤ maxLen
  | .sl esz e, x => ∃ full xs, x = .sl full esz xs ∧ (full = true → xs = []) ∧ xs.length ≤ maxLen ∧ ∀ y ∈ xs, TrD e y
  | .st fs, x => ∃ xs, x = .agg xs ∧ TrDs fs xs
  | .arr n e, x => ∃ xs, x = .arr n xs ∧ xs.length = n ∧ ∀ y ∈ xs, TrD e y
def TrDs : List TyD → List Tr → Prop
  | [], xs => xs = []
  | f :: fs, xs => ∃ y ys, xs = y :: ys ∧ TrD f y ∧ TrDs fs ys
end
def tyDs (f : TypeId → TyD → Bool) : List Field → List TyD → Bool
  | [], [] => true
  | fl :: fs, d :: ds => f fl.type d && tyDs f fs ds
  | _, _ => false
def tyD (P : Program) : Nat → TypeId → TyD → Bool
  | 0, _, _ => false
  | n + 1, t, d => match P.underlying t, d with
    | some .bool, .bool => true
    | some (.int k), .int j => kindEq k j
    | some .string, .str => true
    | some (.slice e), .sl esz d => Nat.beq (P.cellsOf e) esz && tyD P n e d
    | some (.struct fs), .st ds => tyDs (tyD P n) fs.toList ds
    | some (.array m e), .arr k d => Nat.beq m k && tyD P n e d
    | _, _ => false
theorem tyDs_sound {P : Program} {n : Nat} {f : TypeId → TyD → Bool} (ih : ∀ t d x, f t d = true → TrTy P n t x → TrD d x) : ∀ {fs : List Field} {ds : List TyD} {xs : List Tr}, tyDs f fs ds = true → xs.length = fs.length → (∀ (i : Nat) fl y, fs[i]? = some fl → xs[i]? = some y → TrTy P n fl.type y) → TrDs ds xs
  | [], [], xs, _, hl, _ => by simp only [TrDs]; exact List.eq_nil_of_length_eq_zero (by simpa using hl)
  | [], _ :: _, _, h, _, _ => by simp [tyDs] at h
  | _ :: _, [], _, h, _, _ => by simp [tyDs] at h
  | fl :: fs, d :: ds, xs, h, hl, hx => by
    cases xs with
    | nil => simp at hl
    | cons y ys =>
      simp only [tyDs, Bool.and_eq_true] at h
      simp only [TrDs]
      exact ⟨y, ys, rfl, ih _ _ _ h.1 (hx 0 fl y rfl rfl), tyDs_sound ih h.2 (by simpa using hl) (fun i f' y' h1 h2 => hx (i + 1) f' y' (by simpa using h1) (by simpa using h2))⟩
theorem tyD_sound {P : Program} : ∀ {n : Nat} {t : TypeId} {d : TyD} {x : Tr}, tyD P n t d = true → TrTy P n t x → TrD d x
  | 0, t, d, x, h, _ => by simp [tyD] at h
  | n + 1, t, d, x, h, hx => by
    unfold tyD at h
    unfold TrTy at hx
    split at h
    · rename_i hu; simp only [hu] at hx; simpa only [TrD] using hx
    · rename_i hu; simp only [hu] at hx; obtain rfl := kindEq_eq h; simpa only [TrD] using hx
    · rename_i hu; simp only [hu] at hx; simpa only [TrD] using hx
    · rename_i hu
      simp only [hu] at hx
      simp only [Bool.and_eq_true] at h
      obtain ⟨full, xs, rfl, h1, h2, h3⟩ := hx
      simp only [TrD]
      exact ⟨full, xs, by rw [beq_eq h.1], h1, h2, fun y hy => tyD_sound h.2 (h3 y hy)⟩
    · rename_i hu
      simp only [hu] at hx
      obtain ⟨xs, rfl, h1, h2⟩ := hx
      simp only [TrD]
      exact ⟨xs, rfl, tyDs_sound (fun t d x => tyD_sound) h h1 h2⟩
    · rename_i hu
      simp only [hu] at hx
      simp only [Bool.and_eq_true] at h
      obtain ⟨xs, rfl, h1, h2⟩ := hx
      simp only [TrD]
      obtain rfl := beq_eq h.1
      exact ⟨xs, rfl, h1, fun y hy => tyD_sound h.2 (h2 y hy)⟩
    · cases h

/-- An argument, as a row reads it, is data of its form. -/
theorem argD {K : Type} {enc : TypeId × Value → K} {P : Program} {W : World} {base n : Nat} {sp : Nat → Bool} {held : Bool} {t : TypeId} {v : Value} {d : DataW K} {ps : List MemPlace} (D : TyD) (ht : tyT P n t = true) (hD : tyD P n t D = true) (hc : (!flatT P t || Nat.beq (P.cellsOf t) 1) = true)
    (hok : Value.okWide P W .any base t v) (hd : DataW.Trod enc P W 0 sp held t v d ps) : ∃ x, AV.val (env0 W) (.t x) v ∧ TrD D x := by
  obtain ⟨x, h1, h2⟩ := arg_val ht hok hd (fun h => by rw [h] at hc; exact beq_eq (by simpa using hc))
  exact ⟨x, h1, tyD_sound hD h2⟩
theorem wf_u8 {n : Int} (h : (Lit.int .u8 n).wf = true) : 0 ≤ n ∧ n ≤ 255 := by
  simp only [Lit.wf, Bool.and_eq_true, decide_eq_true_eq] at h
  have h1 : IntKind.min .u8 = 0 := by decide
  have h2 : IntKind.max .u8 = 255 := by decide
  omega
theorem wf_u16 {n : Int} (h : (Lit.int .u16 n).wf = true) : 0 ≤ n ∧ n ≤ 65535 := by
  simp only [Lit.wf, Bool.and_eq_true, decide_eq_true_eq] at h
  have h1 : IntKind.min .u16 = 0 := by decide
  have h2 : IntKind.max .u16 = 65535 := by decide
  omega
theorem wf_u32 {n : Int} (h : (Lit.int .u32 n).wf = true) : 0 ≤ n ∧ n ≤ 4294967295 := by
  simp only [Lit.wf, Bool.and_eq_true, decide_eq_true_eq] at h
  have h1 : IntKind.min .u32 = 0 := by decide
  have h2 : IntKind.max .u32 = 4294967295 := by decide
  omega
theorem wf_u64 {n : Int} (h : (Lit.int .u64 n).wf = true) : 0 ≤ n ∧ n ≤ 18446744073709551615 := by
  simp only [Lit.wf, Bool.and_eq_true, decide_eq_true_eq] at h
  have h1 : IntKind.min .u64 = 0 := by decide
  have h2 : IntKind.max .u64 = 18446744073709551615 := by decide
  omega
theorem wf_i16 {n : Int} (h : (Lit.int .i16 n).wf = true) : -32768 ≤ n ∧ n ≤ 32767 := by
  simp only [Lit.wf, Bool.and_eq_true, decide_eq_true_eq] at h
  have h1 : IntKind.min .i16 = -32768 := by decide
  have h2 : IntKind.max .i16 = 32767 := by decide
  omega
theorem wf_i32 {n : Int} (h : (Lit.int .i32 n).wf = true) : -2147483648 ≤ n ∧ n ≤ 2147483647 := by
  simp only [Lit.wf, Bool.and_eq_true, decide_eq_true_eq] at h
  have h1 : IntKind.min .i32 = -2147483648 := by decide
  have h2 : IntKind.max .i32 = 2147483647 := by decide
  omega
theorem wf_i64 {n : Int} (h : (Lit.int .i64 n).wf = true) : -9223372036854775808 ≤ n ∧ n ≤ 9223372036854775807 := by
  simp only [Lit.wf, Bool.and_eq_true, decide_eq_true_eq] at h
  have h1 : IntKind.min .i64 = -9223372036854775808 := by decide
  have h2 : IntKind.max .i64 = 9223372036854775807 := by decide
  omega
theorem trd_get {D : TyD} {xs : List Tr} (h : ∀ y ∈ xs, TrD D y) {i : Nat} (hi : i < xs.length) : ∃ y, xs[i]? = some y ∧ TrD D y :=
  ⟨xs[i], List.getElem?_eq_getElem hi, h _ (List.getElem_mem hi)⟩
theorem u8_get {xs : List Tr} (h : ∀ y ∈ xs, TrD (.int .u8) y) {i : Nat} (hi : i < xs.length) : ∃ v, xs[i]? = some (.int .u8 v) ∧ 0 ≤ v ∧ v ≤ 255 := by
  obtain ⟨y, h1, v, rfl, h2⟩ := trd_get h hi
  exact ⟨v, h1, wf_u8 h2⟩
theorem i64_get {xs : List Tr} (h : ∀ y ∈ xs, TrD (.int .i64) y) {i : Nat} (hi : i < xs.length) : ∃ v, xs[i]? = some (.int .i64 v) ∧ -9223372036854775808 ≤ v ∧ v ≤ 9223372036854775807 := by
  obtain ⟨y, h1, v, rfl, h2⟩ := trd_get h hi
  exact ⟨v, h1, wf_i64 h2⟩
end Stk
