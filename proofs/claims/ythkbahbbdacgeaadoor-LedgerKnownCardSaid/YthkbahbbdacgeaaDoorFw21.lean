/- The framework, part 21: steps of a proof by symbolic evaluation. -/
import Derived.Test.YthkbahbbdacgeaaDoorFwR
import Derived.Laws.BitsLemmas
namespace Stk
open Go
section
variable {X : Cx} {Q : Ex → Fr → Hp → Prop}
theorem sat_ret {e : Ex} {fr : Fr} {H : Hp} (h : Q e fr H) : sat X Q (.ret e fr H) := h
theorem sat_brT {b : Bool} {t e : T} (hb : b = true) (h : sat X Q t) : sat X Q (.br b t e) := And.intro (fun _ => h) (fun h' => absurd h' (by rw [hb]; decide))
theorem sat_brF {b : Bool} {t e : T} (hb : b = false) (h : sat X Q e) : sat X Q (.br b t e) := And.intro (fun h' => absurd h' (by rw [hb]; decide)) (fun _ => h)
theorem sT {b : Bool} {t e : T} (hb : b = true) (h : sat X Q t) : sat X Q (.br b t e) := sat_brT hb h
theorem sF {b : Bool} {t e : T} (hb : b = false) (h : sat X Q e) : sat X Q (.br b t e) := sat_brF hb h
theorem sat_br {b : Bool} {t e : T} (h1 : b = true → sat X Q t) (h2 : b = false → sat X Q e) : sat X Q (.br b t e) := ⟨h1, h2⟩
theorem sat_any {t e : T} (h1 : sat X Q t) (h2 : sat X Q e) : sat X Q (.any t e) := ⟨h1, h2⟩
theorem sat_asrt {b : Bool} {t : T} (hb : b = true) (h : sat X Q t) : sat X Q (.asrt b t) := ⟨hb, h⟩
theorem sat_eqv {v v' : AV} {t : T} (hv : v = v') (h : sat X Q t) : sat X Q (.eqv v v' t) := ⟨hv, h⟩
theorem sE {v v' : AV} {t : T} (hv : v = v') (h : sat X Q t) : sat X Q (.eqv v v' t) := sat_eqv hv h
theorem sat_idx {xs : List Tr} {i : Int} {k : Tr → T} (x : Tr) (h0 : 0 ≤ i) (hx : xs[i.toNat]? = some x) (h : sat X Q (k x)) : sat X Q (.idx xs i k) := ⟨x, h0, hx, h⟩
theorem sat_rng {k : IntKind} {n : Int} {f : Int → T} (hn : k.wrap n = n) (h : sat X Q (f n)) : sat X Q (.rng k n f) := by show sat X Q (f (k.wrap n)); rw [hn]; exact h
theorem sat_rngw {k : IntKind} {n : Int} {f : Int → T} (h : sat X Q (f (k.wrap n))) : sat X Q (.rng k n f) := h
theorem sat_call {f : FuncId} {args : List AV} {H : Hp} {k : AV → Hp → T} {Q' : AV → Hp → Prop} (h : ACalls X.P X.G f args H Q') (hk : ∀ r H', Q' r H' → sat X Q (k r H')) : sat X Q (.call f args H k) := ⟨Q', h, hk⟩
theorem sat_loop {live keep mv : List Nat} {c : IC} {fr : Fr} {H : Hp} {k : Ex → Fr → Hp → T} {Q' : Ex → Fr → Hp → Prop} (h : ALoop X mv c fr H Q') (hk : ∀ e fr' H', Q' e fr' H' → sat X Q (k e fr' H')) : sat X Q (.loop live keep mv c fr H k) := ⟨Q', h, hk⟩
theorem sat_loopOf (hX : OpsOK X) {σ : Type} (fr : σ → Fr) (Hs : σ → Hp) (μ : σ → Nat) (Q' : Ex → Fr → Hp → Prop) {live keep mv : List Nat} {c : IC} {k : Ex → Fr → Hp → T} (x0 : σ)
    (round : ∀ x, sat X (roundP fr Hs μ x Q') (roundR live keep mv c (fr x) (Hs x))) (hk : ∀ e fr' H', Q' e fr' H' → sat X Q (k e fr' H')) : sat X Q (.loop live keep mv c (fr x0) (Hs x0) k) :=
  ⟨Q', aloop_of hX fr Hs μ (fun x => by have := round x; rw [roundR_eq] at this; exact this) x0, hk⟩
end
theorem wrap64 {n : Int} (h1 : -9223372036854775808 ≤ n) (h2 : n ≤ 9223372036854775807) : IntKind.wrap .i64 n = n := by
  rw [IntKind.wrap_i64]; omega
end Stk
