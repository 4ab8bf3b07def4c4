/- The framework, part 25: types of arguments, by their forms alone. -/
import Derived.Test.YthkbahbbdacgeaaDoorFw24
import Derived.WalkKit
import Derived.ProofKit
import Derived.ChangeOld
import Derived.SizedLaws
namespace Stk
open Go Go.RowKit

inductive TyD where
  | bool
  | int (k : IntKind)
  | str
  | sl (esz : Nat) (e : TyD)
  | st (fs : List TyD)
  | arr (n : Nat) (e : TyD)
  | pad (n : Nat)
mutual
def TyD.bytes : TyD → Nat
  | .bool => 1
  | .int k => IntKind.bits k / 8
  | .str => 16
  | .sl _ _ => 24
  | .st fs => TyD.bytesAll fs
  | .arr n e => n * e.bytes
  | .pad n => n
def TyD.bytesAll : List TyD → Nat
  | [] => 0
  | f :: fs => f.bytes + TyD.bytesAll fs
end
/-- What the form's own reach says of a list of so many elements of so many bytes. -/
def limS (n b : Nat) : Prop := n * b ≤ 140737488351232
mutual
def TrL (lim : Nat → Nat → Prop) : TyD → Tr → Prop
  | .bool, x => ∃ b, x = .bool b
  | .int k, x => ∃ i, x = .int k i ∧ (Lit.int k i).wf = true
  | .str, x => ∃ s, x = .str s ∧ lim s.size 1
  | .sl esz e, x => ∃ full xs, x = .sl full esz xs ∧ (full = true → xs = []) ∧ lim xs.length e.bytes ∧ ∀ y ∈ xs, TrL lim e y
  | .st fs, x => ∃ xs, x = .agg xs ∧ TrLs lim fs xs
  | .arr n e, x => ∃ xs, x = .arr n xs ∧ xs.length = n ∧ ∀ y ∈ xs, TrL lim e y
  | .pad _, _ => False
def TrLs (lim : Nat → Nat → Prop) : List TyD → List Tr → Prop
  | [], xs => xs = []
  | .pad _ :: fs, xs => TrLs lim fs xs
  | f :: fs, xs => ∃ y ys, xs = y :: ys ∧ TrL lim f y ∧ TrLs lim fs ys
end
abbrev TrD : TyD → Tr → Prop := TrL limS
def tyDs (f : TypeId → TyD → Bool) : List Field → List TyD → Bool
  | [], [] => true
  | fs, .pad _ :: ds => tyDs f fs ds
  | fl :: fs, d :: ds => f fl.type d && tyDs f fs ds
  | _, _ => false
def tyD (P : Program) : Nat → TypeId → TyD → Bool
  | 0, _, _ => false
  | n + 1, t, d => match P.underlying t, d with
    | some .bool, .bool => true
    | some (.int k), .int j => kindEq k j
    | some .string, .str => true
    | some (.slice e), .sl esz d => (Nat.beq (P.cellsOf e) esz && Nat.ble d.bytes (P.bytesOf e)) && tyD P n e d
    | some (.struct fs), .st ds => tyDs (tyD P n) fs.toList ds
    | some (.array m e), .arr k d => Nat.beq m k && tyD P n e d
    | _, _ => false
theorem tyDs_sound {P : Program} {lim : Nat → Nat → Prop} {n : Nat} {f : TypeId → TyD → Bool} (ih : ∀ t d x, f t d = true → TrTy P lim n t x → TrL lim d x) : ∀ {fs : List Field} {ds : List TyD} {xs : List Tr}, tyDs f fs ds = true → xs.length = fs.length → (∀ (i : Nat) fl y, fs[i]? = some fl → xs[i]? = some y → TrTy P lim n fl.type y) → TrLs lim ds xs
  | fs, [], xs, h, hl, _ => by
    cases fs with
    | nil => simp only [TrLs]; exact List.eq_nil_of_length_eq_zero (by simpa using hl)
    | cons _ _ => simp [tyDs] at h
  | fs, d :: ds, xs, h, hl, hx => by
    by_cases hd : ∃ k, d = .pad k
    · obtain ⟨k, rfl⟩ := hd
      simp only [TrLs]
      refine tyDs_sound ih (ds := ds) ?_ hl hx
      cases fs <;> simpa only [tyDs] using h
    · have e1 : TrLs lim (d :: ds) xs = ∃ y ys, xs = y :: ys ∧ TrL lim d y ∧ TrLs lim ds ys := by
        cases d <;> first | rfl | exact absurd ⟨_, rfl⟩ hd
      have e2 : tyDs f fs (d :: ds) = match fs with
        | [] => false
        | fl :: fs => f fl.type d && tyDs f fs ds := by
        cases fs <;> cases d <;> first | rfl | exact absurd ⟨_, rfl⟩ hd
      rw [e1]
      rw [e2] at h
      cases fs with
      | nil => cases h
      | cons fl fs =>
        cases xs with
        | nil => simp at hl
        | cons y ys =>
          simp only [Bool.and_eq_true] at h
          exact ⟨y, ys, rfl, ih _ _ _ h.1 (hx 0 fl y rfl rfl), tyDs_sound ih h.2 (by simpa using hl) (fun i f' y' h1 h2 => hx (i + 1) f' y' (by simpa using h1) (by simpa using h2))⟩
theorem tyD_sound {P : Program} {lim : Nat → Nat → Prop} (hm : ∀ n b b', b' ≤ b → lim n b → lim n b') : ∀ {n : Nat} {t : TypeId} {d : TyD} {x : Tr}, tyD P n t d = true → TrTy P lim n t x → TrL lim d x
  | 0, t, d, x, h, _ => by simp [tyD] at h
  | n + 1, t, d, x, h, hx => by
    unfold tyD at h
    unfold TrTy at hx
    split at h
    · rename_i hu; simp only [hu] at hx; simpa only [TrL] using hx
    · rename_i hu; simp only [hu] at hx; obtain rfl := kindEq_eq h; simpa only [TrL] using hx
    · rename_i hu; simp only [hu] at hx; simpa only [TrL] using hx
    · rename_i hu
      simp only [hu] at hx
      simp only [Bool.and_eq_true] at h
      obtain ⟨full, xs, rfl, h1, h2, h3⟩ := hx
      simp only [TrL]
      exact ⟨full, xs, by rw [beq_eq h.1.1], h1, hm _ _ _ (Nat.le_of_ble_eq_true h.1.2) h2, fun y hy => tyD_sound hm h.2 (h3 y hy)⟩
    · rename_i hu
      simp only [hu] at hx
      obtain ⟨xs, rfl, h1, h2⟩ := hx
      simp only [TrL]
      exact ⟨xs, rfl, tyDs_sound (fun t d x => tyD_sound hm) h h1 h2⟩
    · rename_i hu
      simp only [hu] at hx
      simp only [Bool.and_eq_true] at h
      obtain ⟨xs, rfl, h1, h2⟩ := hx
      simp only [TrL]
      obtain rfl := beq_eq h.1
      exact ⟨xs, rfl, h1, fun y hy => tyD_sound hm h.2 (h2 y hy)⟩
    · cases h
def limG {K : Type} (P : Program) (t : TypeId) (d : DataW K) : Prop := ∀ w ∈ d.weights P t, w ≤ reachBytes
theorem reach_num : reachBytes = 140737488351232 := by decide
theorem all_mem {K : Type} {P : Program} {e : TypeId} : ∀ {ds : List (DataW K)} {d : DataW K}, d ∈ ds → ∀ w ∈ d.weights P e, w ∈ DataW.weightsAll P e ds
  | x :: r, d, h, w, hw => by
    simp only [DataW.weightsAll, List.mem_append]
    rcases List.mem_cons.1 h with rfl | h
    · exact .inl hw
    · exact .inr (all_mem h w hw)
theorem limG_ok {K : Type} (P : Program) : Lim (K := K) P limS (limG P) where
  str t bs h := by have := h bs.length (by simp [DataW.weights]); rw [reach_num] at this; unfold limS; omega
  nil b := by unfold limS; omega
  sl t e es sp hu h := by
    constructor
    · have := h ((es.length + sp.length) * P.bytesOf e) (by simp [DataW.weights, hu])
      rw [reach_num] at this
      exact Nat.le_trans (Nat.mul_le_mul_right _ (by omega)) this
    · intro d hd w hw
      exact h w (by simp only [DataW.weights, hu, List.mem_cons, List.mem_append]; exact .inr (.inl (all_mem hd w hw)))
  st t fs ps hu h i f d hf hd w hw := h w (by simp only [DataW.weights, hu]; exact DataW.weights_mem_each (t := f.type) (by rw [List.getElem?_map, hf]; rfl) hd w hw)
  arr t m e ps hu h d hd w hw := h w (by simp only [DataW.weights, hu]; exact all_mem hd w hw)
theorem limS_mono (n b b' : Nat) (h : b' ≤ b) (hl : limS n b) : limS n b' := Nat.le_trans (Nat.mul_le_mul_left _ h) hl
theorem limG_each {K : Type} {P : Program} {ts : List TypeId} {ds : List (DataW K)} (h : (DataW.weightsEach P ts ds).all (· ≤ reachBytes) = true) {j : Nat} {t : TypeId} {d : DataW K} (ht : ts[j]? = some t) (hd : ds[j]? = some d) : limG P t d := by
  intro w hw
  have := List.all_eq_true.1 h w (DataW.weights_mem_each ht hd w hw)
  simpa using this

/-- An argument, as a row reads it, is data of its form. -/
theorem argL {K : Type} {enc : TypeId × Value → K} {P : Program} {lim : Nat → Nat → Prop} {G : TypeId → DataW K → Prop} (HG : Lim P lim G) (hm : ∀ n b b', b' ≤ b → lim n b → lim n b') {W : World} {base n : Nat} {sp : Nat → Bool} {held : Bool} {t : TypeId} {v : Value} {d : DataW K} {ps : List MemPlace} (D : TyD) (ht : tyT P n t = true) (hD : tyD P n t D = true) (hc : (!flatT P t || Nat.beq (P.cellsOf t) 1) = true)
    (hok : Value.okWide P W .any base t v) (hd : DataW.Trod enc P W 0 sp held t v d ps) (hg : G t d) : ∃ x, AV.val (env0 W) (.t x) v ∧ TrL lim D x := by
  obtain ⟨x, h1, h2⟩ := arg_val HG ht hok hd hg (fun h => by rw [h] at hc; exact beq_eq (by simpa using hc))
  exact ⟨x, h1, tyD_sound hm hD h2⟩
theorem argD {K : Type} {enc : TypeId × Value → K} {P : Program} {W : World} {base n : Nat} {sp : Nat → Bool} {held : Bool} {t : TypeId} {v : Value} {d : DataW K} {ps : List MemPlace} (D : TyD) (ht : tyT P n t = true) (hD : tyD P n t D = true) (hc : (!flatT P t || Nat.beq (P.cellsOf t) 1) = true)
    (hok : Value.okWide P W .any base t v) (hd : DataW.Trod enc P W 0 sp held t v d ps) (hg : limG P t d) : ∃ x, AV.val (env0 W) (.t x) v ∧ TrD D x :=
  argL (limG_ok P) limS_mono D ht hD hc hok hd hg
theorem wf_u8 {n : Int} (h : (Lit.int .u8 n).wf = true) : 0 ≤ n ∧ n ≤ 255 := by
  simp only [Lit.wf, Bool.and_eq_true, decide_eq_true_eq] at h
  have h1 : IntKind.min .u8 = 0 := by decide
  have h2 : IntKind.max .u8 = 255 := by decide
  omega
theorem wf_u16 {n : Int} (h : (Lit.int .u16 n).wf = true) : 0 ≤ n ∧ n ≤ 65535 := by
  simp only [Lit.wf, Bool.and_eq_true, decide_eq_true_eq] at h
  have h1 : IntKind.min .u16 = 0 := by decide
  have h2 : IntKind.max .u16 = 65535 := by decide
  omega
theorem wf_u32 {n : Int} (h : (Lit.int .u32 n).wf = true) : 0 ≤ n ∧ n ≤ 4294967295 := by
  simp only [Lit.wf, Bool.and_eq_true, decide_eq_true_eq] at h
  have h1 : IntKind.min .u32 = 0 := by decide
  have h2 : IntKind.max .u32 = 4294967295 := by decide
  omega
theorem wf_u64 {n : Int} (h : (Lit.int .u64 n).wf = true) : 0 ≤ n ∧ n ≤ 18446744073709551615 := by
  simp only [Lit.wf, Bool.and_eq_true, decide_eq_true_eq] at h
  have h1 : IntKind.min .u64 = 0 := by decide
  have h2 : IntKind.max .u64 = 18446744073709551615 := by decide
  omega
theorem wf_i16 {n : Int} (h : (Lit.int .i16 n).wf = true) : -32768 ≤ n ∧ n ≤ 32767 := by
  simp only [Lit.wf, Bool.and_eq_true, decide_eq_true_eq] at h
  have h1 : IntKind.min .i16 = -32768 := by decide
  have h2 : IntKind.max .i16 = 32767 := by decide
  omega
theorem wf_i32 {n : Int} (h : (Lit.int .i32 n).wf = true) : -2147483648 ≤ n ∧ n ≤ 2147483647 := by
  simp only [Lit.wf, Bool.and_eq_true, decide_eq_true_eq] at h
  have h1 : IntKind.min .i32 = -2147483648 := by decide
  have h2 : IntKind.max .i32 = 2147483647 := by decide
  omega
theorem wf_i64 {n : Int} (h : (Lit.int .i64 n).wf = true) : -9223372036854775808 ≤ n ∧ n ≤ 9223372036854775807 := by
  simp only [Lit.wf, Bool.and_eq_true, decide_eq_true_eq] at h
  have h1 : IntKind.min .i64 = -9223372036854775808 := by decide
  have h2 : IntKind.max .i64 = 9223372036854775807 := by decide
  omega
theorem trd_get {D : TyD} {xs : List Tr} (h : ∀ y ∈ xs, TrD D y) {i : Nat} (hi : i < xs.length) : ∃ y, xs[i]? = some y ∧ TrD D y :=
  ⟨xs[i], List.getElem?_eq_getElem hi, h _ (List.getElem_mem hi)⟩
theorem u8_get {xs : List Tr} (h : ∀ y ∈ xs, TrD (.int .u8) y) {i : Nat} (hi : i < xs.length) : ∃ v, xs[i]? = some (.int .u8 v) ∧ 0 ≤ v ∧ v ≤ 255 := by
  obtain ⟨y, h1, v, rfl, h2⟩ := trd_get h hi
  exact ⟨v, h1, wf_u8 h2⟩
theorem i64_get {xs : List Tr} (h : ∀ y ∈ xs, TrD (.int .i64) y) {i : Nat} (hi : i < xs.length) : ∃ v, xs[i]? = some (.int .i64 v) ∧ -9223372036854775808 ≤ v ∧ v ≤ 9223372036854775807 := by
  obtain ⟨y, h1, v, rfl, h2⟩ := trd_get h hi
  exact ⟨v, h1, wf_i64 h2⟩
end Stk
