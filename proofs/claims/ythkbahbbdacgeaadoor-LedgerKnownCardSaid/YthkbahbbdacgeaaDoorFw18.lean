/- The framework, part 18: code. -/
import Derived.Test.YthkbahbbdacgeaaDoorFw17
import Derived.Deep.LoopGhost
import Derived.Scope
namespace Stk
open Go
variable {X : Cx} {Q : Ex → Fr → Hp → Prop} {e : Env} {H : Hp} {w : World}

theorem boOK_self (hr : Rel X.G e H w) {ρ : List Nat} (hg : Good H ρ) : BoOK e ρ w e.bo :=
  ⟨fun _ _ h => h, fun k m h => hr.mem k m (.inr h), fun b hb _ _ _ _ hβ => (hr.sep b (hg.live b hb) _ _ _ _ hβ).2⟩

theorem liveK_eq (fr : Fr) : ∀ (ts : List Nat) (k : List AV → T), liveK fr ts k = k (ts.map (fr.at ·))
  | [], k => rfl
  | t :: ts, k => by simp only [liveK, lk_eq, liveK_eq fr ts]; rfl

theorem zipFr_at : ∀ {live : List Nat} {vs : List AV} (t : Nat), (∃ i : Nat, live[i]? = some t ∧ vs[i]? = some ((zipFr live vs).at t)) ∨ (zipFr live vs).at t = .undef
  | [], vs, t => .inr (by simp [zipFr, Fr.at])
  | _ :: _, [], t => .inr (by simp [zipFr, Fr.at])
  | l :: ls, v :: vs, t => by
    simp only [zipFr, Fr.at_cons]
    by_cases h : l = t
    · subst h; rw [if_pos rfl]; exact .inl ⟨0, rfl, rfl⟩
    · rw [if_neg h]
      rcases zipFr_at (live := ls) (vs := vs) t with ⟨i, h1, h2⟩ | h1
      · exact .inl ⟨i + 1, by simpa using h1, by simpa using h2⟩
      · exact .inr h1

theorem vals_get {e : Env} : ∀ {xs : List AV} {cs : List Value} {i : Nat} {x : AV}, AV.vals e xs cs → xs[i]? = some x → ∃ c, cs[i]? = some c ∧ AV.val e x c
  | [], _, i, x, _, hx => by simp at hx
  | y :: xs, cs, i, x, h, hx => by
    simp only [AV.vals] at h
    obtain ⟨c, b, rfl, h1, h2⟩ := h
    cases i with
    | zero => simp at hx; subst hx; exact ⟨c, rfl, h1⟩
    | succ i => obtain ⟨c', h3, h4⟩ := vals_get h2 (by simpa using hx); exact ⟨c', by simpa using h3, h4⟩

/-- The live slots, in a focus. -/
theorem foc_frame {fr : Fr} {a : Act} (hf : FrR X.N e fr a) {live : List Nat} {vs' : List AV} {R : Nat → Nat → Prop} {e2 : Env} (hvs : RenVs R (live.map (fr.at ·)) vs') (hren : Ren R e e2) (hh : Holds e e2) : FrR X.N e2 (zipFr live vs') a := by
  refine ⟨hf.size, hf.defers, fun t => ?_⟩
  have hv : AV.vals e (live.map (fr.at ·)) (live.map fun t => a.tmps.getD t undef) := by
    have : ∀ l : List Nat, AV.vals e (l.map (fr.at ·)) (l.map fun t => a.tmps.getD t undef) := by
      intro l
      induction l with
      | nil => simp [AV.vals]
      | cons t r ih => simp only [List.map_cons, AV.vals]; exact ⟨_, _, rfl, hf.slot t, ih⟩
    exact this live
  have hv' := (hvs e e2 hren (.inl hh)).2 _ hv
  rcases zipFr_at (live := live) (vs := vs') t with ⟨i, h1, h2⟩ | h1
  · obtain ⟨c, h3, h4⟩ := vals_get hv' h2
    rw [List.getElem?_map, h1] at h3
    have h3 : a.tmps.getD t undef = c := Option.some.inj h3
    rw [h3]; exact h4
  · rw [h1]; simp [AV.val]

def RenF (R : Nat → Nat → Prop) (fr fr' : Fr) : Prop := ∀ e e', Ren R e e' → Holds e e' → ∀ t c, AV.val e (fr.at t) c → AV.val e' (fr'.at t) c
theorem renFr_sound {f : Nat → T → (Nat → T) → T} {R : Nat → Nat → Prop} (hf : FnOK X Q f R) : ∀ {fr : Fr} {k : Fr → T}, sat X Q (renFrK f fr k) → ∃ fr', RenF R fr fr' ∧ sat X Q (k fr')
  | [], k, h => ⟨[], fun e e' _ _ t c _ => by simp [Fr.at, AV.val], h⟩
  | (n, v) :: r, k, h => by
    simp only [renFrK] at h
    obtain ⟨v', hv, h⟩ := renK_sound hf h
    obtain ⟨r', hr, h⟩ := renFr_sound hf h
    refine ⟨_, fun e e' hren hh t c hc => ?_, h⟩
    rw [Fr.at_cons] at hc ⊢
    by_cases ht : n = t
    · rw [if_pos ht] at hc ⊢; exact (hv e e' hren (.inl hh)).2 _ hc
    · rw [if_neg ht] at hc ⊢; exact hr e e' hren hh t c hc

def Env.after (e e2 : Env) (n : Nat) : Env := ⟨fun b => if b < n then e.β b else e2.β (b - n), e2.ro, e.bo⟩

theorem loop_back {mv : List Nat} {ms : List Bool} {ρ : List Nat} {Hs Hs' H1 : Hp} {e2 : Env} {H' : Hp} {w' : World} (hr : Rel X.G e H w) (hg : Good H ρ) (hf : Foc H (inR ρ) ρ Hs) (hm : Moves mv Hs ms) (hs : StepL X.G mv (e.foc ρ e.bo) Hs w e2 Hs' w')
    (t1 : H1.length = H.length) (t2 : ∀ b, b ∉ ρ → H1[b]? = H[b]?) (t3 : ∀ (i b : Nat), ρ[i]? = some b → (ms[i]? = some true ∧ H1[b]? = some .gone) ∨ (ms[i]? = some false ∧ H1[b]? = H[b]?))
    (h1 : H'.length = H1.length + Hs'.length)
    (h2 : ∀ (j : Nat) o, Hs'[j]? = some o → ∃ o', RenO (afR ρ ms H.length) o o' ∧ ((∃ c, ρ[j]? = some c ∧ ms[j]? = some false ∧ H'[c]? = some o' ∧ H'[H1.length + j]? = some .gone) ∨ ((ρ.length ≤ j ∨ ms[j]? = some true) ∧ H'[H1.length + j]? = some o')))
    (h3 : ∀ b, b < H1.length → (∀ (j : Nat) h o, ρ[j]? = some b → ms[j]? = some h → Hs'[j]? = some o → h = true) → H'[b]? = H1[b]?) :
    Step X.G e H w (e.after e2 H.length) H' w' ∧ Ren (afR ρ ms H.length) e2 (e.after e2 H.length) ∧ Holds e2 (e.after e2 H.length) := by
  have hρl : ∀ i b, ρ[i]? = some b → b < H.length := fun i b h => by
    obtain ⟨o, ho, _⟩ := hg.live b (mem_of_get h); exact lt_of_get ho
  have hHs : ∀ (i b : Nat), ρ[i]? = some b → ∃ o h, H[b]? = some o ∧ Hs[i]? = some h ∧ ms[i]? = some (mvd mv i h) ∧ h ≠ .gone := fun i b hi => by
    obtain ⟨o, o', g1, g2, g3⟩ := hf.get i b hi
    obtain ⟨o1, g4, g5⟩ := hg.live b (mem_of_get hi)
    rw [g1] at g4; obtain rfl := Option.some.inj g4
    exact ⟨o, o', g1, g3, hm.get i o' g3, fun e => g5 (g2.gone.1 e)⟩
  have hold : ∀ (i b : Nat), ρ[i]? = some b → ms[i]? = some false → e2.β i = e.β b := fun i b hi hrow => by
    obtain ⟨o, h', g1, g2, g3, g4⟩ := hHs i b hi
    rw [hrow] at g3
    rw [hs.β i h' g2 (Option.some.inj g3).symm g4, foc_β hi]
  have hnew : ∀ b, H.length ≤ b → (e.after e2 H.length).β b = e2.β (b - H.length) := fun b h => by
    simp only [Env.after]; rw [if_neg (by omega)]
  have holdβ : ∀ b, b < H.length → (e.after e2 H.length).β b = e.β b := fun b h => by simp only [Env.after]; rw [if_pos h]
  have hren : Ren (afR ρ ms H.length) e2 (e.after e2 H.length) := by
    refine ⟨fun j b hR _ => ?_, MemLe.refl _⟩
    rcases hR with ⟨hR, hrow⟩ | ⟨_, rfl⟩
    · rw [holdβ b (hρl j b hR), hold j b hR hrow]
    · rw [hnew _ (by omega)]; congr 1; omega
  refine ⟨merge_rel hr hg hf (boOK_self hr hg) hs.rel hs.bo hs.ro hs.wle hs.own hs.frz (.inl rfl) (R := afR ρ ms H.length) ⟨rfl, rfl, holdβ, by omega, ?_, ?_, hren, ?_, ?_⟩, hren, ?_⟩
  · intro b hb'
    by_cases hbl : b < H.length
    · rw [holdβ b hbl]; exact hr.bound b hbl
    · rw [hnew b (by omega)]; exact hs.rel.bound _ (by omega)
  · intro b hb'
    by_cases hbl : b < H.length
    · omega
    · rw [hnew b (by omega)] at hb'
      have := hs.rel.dom _ hb'
      omega
  · intro b o ho hne
    by_cases hbl : b < H.length
    · by_cases hbρ : b ∈ ρ
      · obtain ⟨i, hi⟩ := List.getElem?_of_mem hbρ
        obtain ⟨o0, h, g1, g2, g3, g4⟩ := hHs i b hi
        rcases t3 i b hi with ⟨k1, k2⟩ | ⟨k1, k2⟩
        · have : H'[b]? = H1[b]? := h3 b (by omega) (fun j h' o' q1 q2 q3 => by
            have : i = j := (List.getElem?_inj (lt_of_get hi) hg.nodup).1 (hi.trans q1.symm)
            subst this; rw [k1] at q2; exact (Option.some.inj q2).symm)
          rw [this, k2] at ho; exact absurd (Option.some.inj ho).symm hne
        · have hmv : mvd mv i h = false := by rw [k1] at g3; exact (Option.some.inj g3).symm
          obtain ⟨o2, q1, _⟩ := hs.keep i h g2 hmv g4
          obtain ⟨o', q2, q3⟩ := h2 i o2 q1
          rcases q3 with ⟨c, q3, q4, q6, _⟩ | ⟨q3, _⟩
          · rw [hi] at q3; obtain rfl := Option.some.inj q3
            rw [ho] at q6; obtain rfl := Option.some.inj q6
            exact .inr ⟨i, o2, q1, q2, by rw [holdβ b hbl, hold i b hi k1], .inl ⟨hi, k1⟩⟩
          · exfalso
            rcases q3 with q3 | q3
            · have := lt_of_get hi; omega
            · rw [k1] at q3; cases q3
      · refine .inl ⟨hbl, hbρ, ?_⟩
        rw [← t2 b hbρ, ← h3 b (by omega) (fun j h' o' k1 _ _ => absurd (mem_of_get k1) hbρ)]
        exact ho
    · have hlt := lt_of_get ho
      have hj : b - H.length < Hs'.length := by omega
      obtain ⟨o', k2, k3⟩ := h2 (b - H.length) _ (List.getElem?_eq_getElem hj)
      rcases k3 with ⟨c, _, _, _, k6⟩ | ⟨k3, k4⟩
      · rw [t1, show H.length + (b - H.length) = b by omega, ho] at k6
        exact absurd (Option.some.inj k6) hne
      · rw [t1, show H.length + (b - H.length) = b by omega, ho] at k4
        obtain rfl := Option.some.inj k4
        exact .inr ⟨b - H.length, _, List.getElem?_eq_getElem hj, k2, hnew b (by omega), .inr ⟨k3, by omega⟩⟩
  · intro j b b' _ _ hR hR'
    rcases hR with ⟨hR, hrow⟩ | ⟨h5, rfl⟩ <;> rcases hR' with ⟨hR', hrow'⟩ | ⟨h6, rfl⟩
    · rw [hR] at hR'; exact Option.some.inj hR'
    · rcases h6 with h6 | h6
      · have := lt_of_get hR; omega
      · rw [hrow] at h6; cases h6
    · rcases h5 with h5 | h5
      · have := lt_of_get hR'; omega
      · rw [hrow'] at h5; cases h5
    · rfl
  · intro k m hk
    rcases hk with hk | hk
    · exact .inl hk
    · right
      show e.bo k = some m
      have : e2.bo = e.bo := hs.bo
      rw [← this]; exact hk

/-! ### Code -/
def CP (X : Cx) (Q : Ex → Fr → Hp → Prop) (e : Env) (H : Hp) (w : World) (k : Ex → Fr → Hp → T) : Exit → Act → World → Prop :=
  fun ex a' w' => ∃ ex' fr' e' H', ExR ex ex' ∧ sat X Q (k ex' fr' H') ∧ FrR X.N e' fr' a' ∧ Step X.G e H w e' H' w'

structure OpsOK (X : Cx) : Prop where
  reg : ∀ ops is, X.ops false ops is = true → chkOpsL X.P X.G X.N ops ops.toList is = true
  dreg : ∀ ops is, X.ops true ops is = true → chkD X.P X.G X.N ops is = true

theorem code_sound (hX : OpsOK X) : ∀ (c : IC) {code : Code}, chkC X.ops X.G c code = true → ∀ {e : Env} {H : Hp} {w : World} {fr : Fr} {a : Act} {k : Ex → Fr → Hp → T},
    Rel X.G e H w → FrR X.N e fr a → sat X Q (codeT c fr H k) → code.wp X.P (CP X Q e H w k) a w := by
  intro c
  induction c with
  | skip =>
    intro code hc e H w fr a k hr hf h
    cases code <;> simp only [chkC] at hc <;> first | cases hc; done | skip
    · exact wp_skip ⟨.normal, fr, e, H, trivial, h, hf, Step.refl hr⟩
    · exact wp_label ⟨.normal, fr, e, H, trivial, h, hf, Step.refl hr⟩
  | reg is =>
    intro code hc e H w fr a k hr hf h
    unfold chkC at hc
    split at hc <;> first | (rename_i heq; cases heq) | skip
    all_goals first | cases hc | skip
    simp only [codeT] at h
    exact region_sound (hX.reg _ _ hc) hr hf h (fun fr' a' e' H' w' hf' hst hk => ⟨.normal, fr', e', H', trivial, hk, hf', hst⟩)
  | dreg is =>
    intro code hc e H w fr a k hr hf h
    unfold chkC at hc
    split at hc <;> first | (rename_i heq; cases heq) | skip
    all_goals first | cases hc | skip
    simp only [codeT] at h
    exact drawn_sound (hX.dreg _ _ hc) hr hf h (fun fr' a' e' H' w' hf' hst hk => ⟨.normal, fr', e', H', trivial, hk, hf', hst⟩)
  | seq x y ihx ihy =>
    intro code hc e H w fr a k hr hf h
    cases code <;> simp only [chkC] at hc <;> first | cases hc; done | skip
    case scope c' =>
      simp only [Bool.and_eq_true] at hc
      cases y <;> simp only [IC.isSkip] at hc <;> first | exact absurd hc.1 (by decide) | skip
      simp only [codeT] at h
      refine wp_scope_straight (wp_mono (ihx hc.2 hr hf h) ?_)
      rintro ex a1 w1 ⟨ex', fr', e', H', hex, hk, hf', hst⟩
      cases ex <;> cases ex' <;> simp only [ExR] at hex
      · exact ⟨.normal, fr', e', H', trivial, hk, hf', hst⟩
      · rename_i i j
        exact ⟨.exit j, fr', e', H', hex, hk, hf', hst⟩
      · exact ⟨.ret, fr', e', H', trivial, hk, hf', hst⟩
    case seq x' y' =>
      simp only [Bool.and_eq_true] at hc
      simp only [codeT] at h
      refine wp_seq (wp_mono (ihx hc.1 hr hf h) ?_)
      rintro ex a1 w1 ⟨ex', fr', e', H', hex, hk, hf', hst⟩
      cases ex <;> cases ex' <;> simp only [ExR] at hex
      · refine wp_mono (ihy hc.2 hst.rel hf' hk) ?_
        rintro ex a2 w2 ⟨ex2, fr2, e2, H2, hex2, hk2, hf2, hst2⟩
        exact ⟨ex2, fr2, e2, H2, hex2, hk2, hf2, hst.trans hst2⟩
      · rename_i i j
        exact ⟨.exit j, fr', e', H', hex, hk, hf', hst⟩
      · exact ⟨.ret, fr', e', H', trivial, hk, hf', hst⟩
  | cond x ca cb iha ihb =>
    intro code hc e H w fr a k hr hf h
    cases code <;> simp only [chkC] at hc <;> first | cases hc; done | skip
    simp only [Bool.and_eq_true] at hc
    rename_i c' x' y'
    obtain ⟨⟨h1, h2⟩, h3⟩ := hc
    have hxv := chkOpd_val hr hf h1
    simp only [codeT] at h
    cases x with
    | tmp t =>
      simp only [lk_eq] at h
      split at h
      · rename_i b hb
        have hv : AV.val e (.t (.bool b)) (a.eval c') := by rw [← hb]; exact hxv
        have hcv := val_bool' hv
        have hslot := hf.slot t
        rw [hb] at hslot
        refine wp_cond_split hcv (fun hb' => ?_) (fun hb' => ?_)
        · subst hb'; exact iha h2 hr (hf.know hslot) (h.1 rfl)
        · subst hb'; exact ihb h3 hr (hf.know hslot) (h.2 rfl)
      · exact h.elim
    | con v =>
      cases v with
      | t x =>
        cases x with
        | bool b =>
          have hcv := val_bool' hxv
          refine wp_cond_split hcv (fun hb' => ?_) (fun hb' => ?_)
          · subst hb'; exact iha h2 hr hf (h.1 rfl)
          · subst hb'; exact ihb h3 hr hf (h.2 rfl)
        | _ => exact h.elim
      | _ => exact h.elim
    | fn f => exact h.elim
    | glob g x => exact h.elim
  | block id x ih =>
    intro code hc e H w fr a k hr hf h
    cases code <;> simp only [chkC] at hc <;> first | cases hc; done | skip
    simp only [Bool.and_eq_true, beq_iff_eq] at hc
    obtain ⟨rfl, hc⟩ := hc
    simp only [codeT] at h
    refine wp_block (wp_mono (ih hc hr hf h) ?_)
    rintro ex a1 w1 ⟨ex', fr', e', H', hex, hk, hf', hst⟩
    cases ex <;> cases ex' <;> simp only [ExR] at hex
    · exact ⟨.normal, fr', e', H', trivial, hk, hf', hst⟩
    · rename_i i j
      subst hex
      simp only [Exit.inBlock]
      simp only [] at hk
      cases hb : Nat.beq i id with
      | true =>
        rw [hb] at hk
        rw [if_pos (beq_eq hb)]
        exact ⟨.normal, fr', e', H', trivial, hk, hf', hst⟩
      | false =>
        rw [hb] at hk
        have : i ≠ id := by rintro rfl; rw [Nat.beq_refl] at hb; cases hb
        rw [if_neg this]
        exact ⟨.exit i, fr', e', H', rfl, hk, hf', hst⟩
    · exact ⟨.ret, fr', e', H', trivial, hk, hf', hst⟩
  | loop live keep mv x _ =>
    intro code hc e H w fr a k hr hf h
    cases code <;> simp only [chkC] at hc <;> first | cases hc; done | skip
    simp only [codeT, liveK_eq] at h
    obtain ⟨ρ, hg, h⟩ := reachK_sound (acc := []) ⟨by simp, by simp⟩ h
    obtain ⟨vs', hvs, h⟩ := rensK_sound (inward_ok ρ) h
    obtain ⟨Hs, hfo, h⟩ := focK_sound h
    obtain ⟨ms, h, hm⟩ := moves_sound h
    rw [litK_eq] at h
    have hml : ms.length = ρ.length := hm.len.trans hfo.len
    obtain ⟨H1, h, t1, t2, t3⟩ := takeRows_sound hml hg.nodup h
    obtain ⟨Q', hal, hk⟩ := h
    have hbo := boOK_self hr hg
    have hfr := foc_frame hf hvs (foc_ren e ρ e.bo) (foc_holds hbo)
    refine wp_mono (hal _ hc _ w a (foc_rel hr hg hfo hbo) hfr) ?_
    rintro ex a' w' ⟨ex', fr', e2, Hs', hex, hq, hf', hst⟩
    have h := hk ex' fr' Hs' hq
    have hok := afterName_ok (X := X) (Q := Q) ρ ms H.length hml
    obtain ⟨fr'', hff, h⟩ := renFr_sound hok h
    have hρl : ∀ b ∈ ρ, b < H1.length := fun b hb => by obtain ⟨o, ho, _⟩ := hg.live b hb; rw [t1]; exact lt_of_get ho
    obtain ⟨H', h, h1, h2, h3⟩ := afterK_sound rfl hok hml hg.nodup hρl h
    obtain ⟨hs, hren, hhold⟩ := loop_back hr hg hfo hm hst t1 t2 t3 h1 h2 h3
    exact ⟨ex', fr'', _, H', hex, h, ⟨hf'.size, hf'.defers, fun t => hff _ _ hren hhold t _ (hf'.slot t)⟩, hs⟩
  | exit id =>
    intro code hc e H w fr a k hr hf h
    cases code <;> simp only [chkC] at hc <;> first | cases hc; done | skip
    simp only [beq_iff_eq] at hc
    subst hc
    exact wp_exit ⟨.exit _, fr, e, H, rfl, h, hf, Step.refl hr⟩
  | ret =>
    intro code hc e H w fr a k hr hf h
    cases code <;> simp only [chkC] at hc <;> first | cases hc; done | skip
    exact wp_ret ⟨.ret, fr, e, H, trivial, h, hf, Step.refl hr⟩
  | bad => intro code hc e H w fr a k hr hf h; exact h.elim
end Stk
