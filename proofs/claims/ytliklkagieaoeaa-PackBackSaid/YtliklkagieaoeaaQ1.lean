/- The plain law: what is read out of a form is what was put into it, and the other way round. -/
import Derived.Test.YtliklkagieaoeaaCom
namespace Stk
open Go
set_option maxRecDepth 100000
set_option linter.unusedSimpArgs false
set_option linter.unusedVariables false
set_option maxHeartbeats 4000000
theorem emod_mul (n m : Int) (hm : 0 ≤ m) : n % (256 * m) = n % 256 + 256 * (n / 256 % m) := by
  have h1 : n / (256 * m) = n / 256 / m := by rw [Int.ediv_ediv_of_nonneg (by omega)]
  have e1 := Int.emod_add_mul_ediv n (256 * m)
  have e2 := Int.emod_add_mul_ediv n 256
  have e3 := Int.emod_add_mul_ediv (n / 256) m
  rw [h1] at e1
  have e4 : 256 * m * (n / 256 / m) = 256 * (m * (n / 256 / m)) := Int.mul_assoc _ _ _
  omega
theorem valB_leB : ∀ (k : Nat) (n : Int), valB (leB k n) = n % 256 ^ k
  | 0, n => by simp [leB, valB]
  | k + 1, n => by
    rw [leB, valB_cons, valB_leB k, Int.pow_succ, Int.mul_comm (256 ^ k) 256, emod_mul n (256 ^ k) (Int.le_of_lt (Int.pow_pos (by decide)))]
theorem leB_valB : ∀ (L : List Tr), AllB L → leB L.length (valB L) = L
  | [], _ => rfl
  | x :: L, h => by
    obtain ⟨v, rfl, hv⟩ := h x (by simp)
    rw [valB_cons, List.length_cons, leB, show (v + 256 * valB L) % 256 = v by omega, show (v + 256 * valB L) / 256 = valB L by omega, leB_valB L fun y hy => h y (by simp [hy])]
theorem wrap_uu64 {n : Int} (h : I64 n) : IntKind.wrap .i64 (uu n) = n := by
  obtain ⟨h1, h2⟩ := h
  rw [IntKind.wrap_i64]
  unfold uu
  omega
theorem uu_wrap {n : Int} (h : 0 ≤ n ∧ n < 18446744073709551616) : uu (IntKind.wrap .i64 n) = n := by
  rw [IntKind.wrap_i64]
  unfold uu
  omega
theorem i64_wrap (n : Int) : I64 (IntKind.wrap .i64 n) := by
  rw [IntKind.wrap_i64]
  constructor <;> omega
/-! there -/
theorem take_put (A R : List Tr) (n : Nat) (h : A.length = n) : Rd.take ⟨A ++ R, 0⟩ n = (⟨R, 0⟩, A) := by
  subst h
  unfold Rd.take
  rw [if_neg (by simp), if_neg (by simp)]
  simp
theorem fixed_put (k : Nat) (n : Int) (R : List Tr) : Rd.fixed ⟨leB k n ++ R, 0⟩ k = (⟨R, 0⟩, n % 256 ^ k) := by
  unfold Rd.fixed
  rw [take_put _ _ _ (leB_len k n), valB_leB]
theorem num_put {n : Int} (h : I64 n) (R : List Tr) : Rd.num ⟨num n ++ R, 0⟩ = (⟨R, 0⟩, n) := by
  unfold Rd.num num
  rw [fixed_put, show (256 : Int) ^ 8 = 18446744073709551616 by decide, show uu n % 18446744073709551616 = uu n by unfold uu; omega, wrap_uu64 h]
theorem mark_put (y : Bool) (R : List Tr) : Rd.mark ⟨mkB y ++ R, 0⟩ = (⟨R, 0⟩, y) := by
  unfold Rd.mark
  rw [mkB_le, fixed_put]
  cases y
  · rfl
  · rfl
theorem hash_put {hs : List Tr} (h : hs.length = 32) (R : List Tr) : Rd.hash ⟨hs ++ R, 0⟩ = (⟨R, 0⟩, hs) := by
  unfold Rd.hash
  rw [take_put _ _ _ h, if_pos h]
theorem count_put (n most : Nat) (hm : most ≤ 65536) (h : n ≤ most) (R : List Tr) : Rd.count ⟨leB 4 n ++ R, 0⟩ most = (⟨R, 0⟩, n) := by
  unfold Rd.count
  rw [fixed_put, show (256 : Int) ^ 4 = 4294967296 by decide, show (n : Int) % 4294967296 = n by omega, if_neg (by show ¬ (n : Int) > most; omega)]
  rfl
theorem data_put {d : List Tr} (h : d.length ≤ 65536) (R : List Tr) : Rd.data ⟨leB 4 d.length ++ (d ++ R), 0⟩ = (⟨R, 0⟩, d) := by
  unfold Rd.data
  rw [count_put _ _ (by omega) h]
  exact take_put _ _ _ rfl
structure Cm.IN (c : Cm) : Prop extends Cm.WB c where
  dl : c.data.length ≤ 65536
theorem kind_put {k : Int} (h : 0 ≤ k ∧ k ≤ 255) (R : List Tr) : Rd.fixed ⟨u8 k :: R, 0⟩ 1 = (⟨R, 0⟩, k) := by
  have := fixed_put 1 k R
  rw [kind_le h, show k % 256 ^ 1 = k by omega] at this
  exact this
theorem cmd_put {c : Cm} (h : c.IN) (R : List Tr) : Rd.cmd ⟨cmdB c ++ R, 0⟩ = (⟨R, 0⟩, c) := by
  obtain ⟨kind, client, seq, node, epoch, yes, hash, data⟩ := c
  have hi := h.i
  have e : cmdB ⟨kind, client, seq, node, epoch, yes, hash, data⟩ ++ R = u8 kind :: (num client ++ (num seq ++ (num node ++ (num epoch ++ (mkB yes ++ (hash ++ (leB 4 data.length ++ (data ++ R)))))))) := by
    simp [cmdB, Cm.head, nums]
  rw [e]
  unfold Rd.cmd Rd.four
  rw [kind_put h.k, num_put (hi _ (by simp)), num_put (hi _ (by simp)), num_put (hi _ (by simp)), num_put (hi _ (by simp)), mark_put, hash_put h.h, data_put h.dl]
  have hk := h.k
  simp only [show IntKind.wrap .u8 kind = kind by rw [IntKind.wrap_u8]; have h1 : 0 ≤ kind ∧ kind ≤ 255 := hk; omega]
theorem entry_put {x : En} (h : x.cmd.IN) (ht : I64 x.term) (R : List Tr) : Rd.entry ⟨entryB x ++ R, 0⟩ = (⟨R, 0⟩, x) := by
  unfold Rd.entry entryB
  rw [List.append_assoc, num_put ht, cmd_put h]
theorem takeC_put {c : Cm} (h : c.IN) : takeC (cmdB c) = (c, 0) := by
  have := cmd_put h []
  rw [List.append_nil] at this
  unfold takeC
  rw [this]
  rfl
theorem takeE_put {x : En} (h : x.cmd.IN) (ht : I64 x.term) : takeE (entryB x) = (x, 0) := by
  have := entry_put h ht []
  rw [List.append_nil] at this
  unfold takeE
  rw [this]
  rfl
/-! and back -/
theorem take_get {r : Rd} {n : Nat} (h : (r.take n).1.e = 0) : r.e = 0 ∧ r.b = (r.take n).2 ++ (r.take n).1.b ∧ (r.take n).2.length = n := by
  unfold Rd.take at h ⊢
  by_cases he : r.e = 0
  · rw [if_neg (by simp [he])] at h ⊢
    by_cases hn : n > r.b.length
    · rw [if_pos hn] at h
      exact absurd h (by simp)
    · rw [if_neg hn] at h ⊢
      exact ⟨he, (List.take_append_drop n r.b).symm, by show (r.b.take n).length = n; rw [List.length_take]; omega⟩
  · rw [if_pos he] at h
    exact absurd h he
theorem fixed_get {r : Rd} (hr : AllB r.b) {k : Nat} (h : (r.fixed k).1.e = 0) : r.e = 0 ∧ r.b = leB k (r.fixed k).2 ++ (r.fixed k).1.b := by
  obtain ⟨h1, h2, h3⟩ := take_get (r := r) (n := k) h
  refine ⟨h1, ?_⟩
  have hb := (Rd.take_b hr k).2.1
  have h4 := leB_valB _ hb
  rw [h3] at h4
  show r.b = leB k (valB (r.take k).2) ++ (r.take k).1.b
  rw [h4]
  exact h2
theorem num_get {r : Rd} (hr : AllB r.b) (h : r.num.1.e = 0) : r.e = 0 ∧ r.b = num r.num.2 ++ r.num.1.b ∧ I64 r.num.2 := by
  obtain ⟨h1, h2⟩ := fixed_get hr (k := 8) h
  obtain ⟨-, h3, -⟩ := Rd.fixed_b hr 8 (by omega)
  rw [show (256 : Int) ^ 8 = 18446744073709551616 by decide] at h3
  refine ⟨h1, ?_, i64_wrap _⟩
  show r.b = leB 8 (uu (IntKind.wrap .i64 (r.fixed 8).2)) ++ (r.fixed 8).1.b
  rw [uu_wrap h3]
  exact h2
theorem mark_get {r : Rd} (hr : AllB r.b) (h : r.mark.1.e = 0) : r.e = 0 ∧ r.b = mkB r.mark.2 ++ r.mark.1.b := by
  obtain ⟨-, h3, -⟩ := Rd.fixed_b hr 1 (by omega)
  unfold Rd.mark at h ⊢
  by_cases hn : (r.fixed 1).2 > 1
  · rw [if_pos hn] at h
    exact absurd h (by simp)
  · rw [if_neg hn] at h ⊢
    obtain ⟨h1, h2⟩ := fixed_get hr (k := 1) h
    refine ⟨h1, ?_⟩
    have e : leB 1 (r.fixed 1).2 = mkB ((r.fixed 1).2 == 1) := by
      obtain h0 | h0 : (r.fixed 1).2 = 0 ∨ (r.fixed 1).2 = 1 := by omega
      · rw [h0]; rfl
      · rw [h0]; rfl
    show r.b = mkB ((r.fixed 1).2 == 1) ++ (r.fixed 1).1.b
    rw [← e]
    exact h2
theorem hash_get {r : Rd} (h : r.hash.1.e = 0) : r.e = 0 ∧ r.b = r.hash.2 ++ r.hash.1.b := by
  obtain ⟨h1, h2, h3⟩ := take_get (r := r) (n := 32) h
  unfold Rd.hash
  rw [if_pos h3]
  exact ⟨h1, h2⟩
theorem count_get {r : Rd} (hr : AllB r.b) {most : Nat} (h : (r.count most).1.e = 0) : r.e = 0 ∧ r.b = leB 4 (r.count most).2 ++ (r.count most).1.b ∧ (r.count most).2 ≤ most := by
  have hm := (Rd.count_b hr most).2.1
  obtain ⟨-, h3, -⟩ := Rd.fixed_b hr 4 (by omega)
  unfold Rd.count at h hm ⊢
  by_cases hn : (r.fixed 4).2 > most
  · rw [if_pos hn] at h
    exact absurd h (by simp)
  · rw [if_neg hn] at h hm ⊢
    obtain ⟨h1, h2⟩ := fixed_get hr (k := 4) h
    refine ⟨h1, ?_, hm⟩
    show r.b = leB 4 (((r.fixed 4).2.toNat : Nat) : Int) ++ (r.fixed 4).1.b
    rw [Int.toNat_of_nonneg h3.1]
    exact h2
theorem data_get {r : Rd} (hr : AllB r.b) (h : r.data.1.e = 0) : r.e = 0 ∧ r.b = leB 4 r.data.2.length ++ r.data.2 ++ r.data.1.b ∧ r.data.2.length ≤ 65536 := by
  obtain ⟨h1, h2, h3⟩ := take_get (r := (r.count 65536).1) (n := (r.count 65536).2) h
  obtain ⟨h4, h5, h6⟩ := count_get hr h1
  have e : r.data.2.length = (r.count 65536).2 := h3
  refine ⟨h4, ?_, by rw [e]; exact h6⟩
  rw [e, List.append_assoc]
  show r.b = leB 4 _ ++ ((((r.count 65536).1.take (r.count 65536).2).2) ++ ((r.count 65536).1.take (r.count 65536).2).1.b)
  rw [← h2]
  exact h5
theorem cmd_get {r : Rd} (hr : AllB r.b) (h : r.cmd.1.e = 0) : r.e = 0 ∧ r.b = cmdB r.cmd.2 ++ r.cmd.1.b ∧ r.cmd.2.IN := by
  obtain ⟨b1, v1, -⟩ := Rd.fixed_b hr 1 (by omega)
  have b2 := (Rd.num_b b1).1
  have b3 := (Rd.num_b b2).1
  have b4 := (Rd.num_b b3).1
  have b5 := (Rd.num_b b4).1
  have b6 := (Rd.mark_b b5).1
  obtain ⟨b7, c7, c7', -⟩ := Rd.hash_b b6
  obtain ⟨b8, c8, c8', -⟩ := Rd.data_b b7
  obtain ⟨e8, g8, k8⟩ := data_get b7 h
  obtain ⟨e7, g7⟩ := hash_get e8
  obtain ⟨e6, g6⟩ := mark_get b5 e7
  obtain ⟨e5, g5, k5⟩ := num_get b4 e6
  obtain ⟨e4, g4, k4⟩ := num_get b3 e5
  obtain ⟨e3, g3, k3⟩ := num_get b2 e4
  obtain ⟨e2, g2, k2⟩ := num_get b1 e3
  obtain ⟨e1, g1⟩ := fixed_get hr e2
  have v1' : 0 ≤ (r.fixed 1).2 ∧ (r.fixed 1).2 ≤ 255 := by rw [show (256 : Int) ^ 1 = 256 by decide] at v1; omega
  have hk : r.cmd.2.kind = (r.fixed 1).2 := by show IntKind.wrap .u8 (r.fixed 1).2 = _; rw [IntKind.wrap_u8]; omega
  refine ⟨e1, ?_, ⟨⟨by rw [hk]; exact v1', c7', c7, c8, ?_⟩, k8⟩⟩
  · rw [g1, kind_le v1', g2, g3, g4, g5, g6, g7, g8]
    unfold cmdB Cm.head
    rw [hk]
    simp only [nums, List.map_cons, List.map_nil, List.flatten_cons, List.flatten_nil, List.append_nil, List.append_assoc, List.cons_append, List.nil_append]
    rfl
  · intro n hn
    simp only [List.mem_cons, List.not_mem_nil, or_false] at hn
    rcases hn with rfl | rfl | rfl | rfl
    · exact k2
    · exact k3
    · exact k4
    · exact k5
theorem entry_get {r : Rd} (hr : AllB r.b) (h : r.entry.1.e = 0) : r.e = 0 ∧ r.b = entryB r.entry.2 ++ r.entry.1.b ∧ r.entry.2.cmd.IN ∧ I64 r.entry.2.term := by
  have b1 := (Rd.num_b hr).1
  obtain ⟨e2, g2, k2⟩ := cmd_get b1 h
  obtain ⟨e1, g1, k1⟩ := num_get hr e2
  refine ⟨e1, ?_, k2, k1⟩
  unfold entryB
  rw [g1, g2, List.append_assoc]
  rfl
theorem ends_zero {r : Rd} (h : r.ends = 0) : r.e = 0 ∧ r.b = [] := by
  unfold Rd.ends at h
  by_cases he : r.e = 0
  · rw [if_pos he] at h
    by_cases hb : r.b.length > 0
    · rw [if_pos hb] at h; exact absurd h (by simp)
    · exact ⟨he, List.eq_nil_of_length_eq_zero (by omega)⟩
  · rw [if_neg he] at h
    exact absurd h he
theorem takeC_get {L : List Tr} (hL : AllB L) (h : (takeC L).2 = 0) : L = cmdB (takeC L).1 ∧ (takeC L).1.IN := by
  unfold takeC at h ⊢
  by_cases he : (Rd.cmd ⟨L, 0⟩).1.ends = 0
  · rw [if_pos he]
    obtain ⟨h1, h2⟩ := ends_zero he
    obtain ⟨-, g, k⟩ := cmd_get (r := ⟨L, 0⟩) hL h1
    rw [h2, List.append_nil] at g
    exact ⟨g, k⟩
  · rw [if_neg he] at h
    exact absurd h he
theorem takeE_get {L : List Tr} (hL : AllB L) (h : (takeE L).2 = 0) : L = entryB (takeE L).1 ∧ (takeE L).1.cmd.IN ∧ I64 (takeE L).1.term := by
  unfold takeE at h ⊢
  by_cases he : (Rd.entry ⟨L, 0⟩).1.ends = 0
  · rw [if_pos he]
    obtain ⟨h1, h2⟩ := ends_zero he
    obtain ⟨-, g, k⟩ := entry_get (r := ⟨L, 0⟩) hL h1
    rw [h2, List.append_nil] at g
    exact ⟨g, k⟩
  · rw [if_neg he] at h
    exact absurd h he
end Stk
