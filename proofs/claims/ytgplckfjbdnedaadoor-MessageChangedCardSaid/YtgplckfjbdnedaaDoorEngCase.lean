/- A part of the engine by which the functions are walked; it speaks of no program. -/
import Derived.Test.YtgplckfjbdnedaaDoorEngInl
namespace Go.Eng
open Go Go.RowKit

/-! ### Ways that are known -/
theorem yes {p A B : Prop} (h : p) (a : A) : (p → A) ∧ (¬ p → B) := ⟨fun _ => a, fun n => absurd h n⟩
theorem yes' {p A B : Prop} (h : p) (a : A) : (¬ p → B) ∧ (p → A) := ⟨fun n => absurd h n, fun _ => a⟩
theorem no {p A B : Prop} (h : ¬ p) (a : A) : (p → B) ∧ (¬ p → A) := ⟨fun n => absurd n h, fun _ => a⟩
theorem no' {p A B : Prop} (h : ¬ p) (a : A) : (¬ p → A) ∧ (p → B) := ⟨fun _ => a, fun n => absurd n h⟩
theorem tt {b : Bool} {A B : Prop} (h : b = true) (a : A) : (b = true → A) ∧ (b = false → B) := ⟨fun _ => a, fun n => Bool.noConfusion (h.symm.trans n)⟩
theorem ff {b : Bool} {A B : Prop} (h : b = false) (a : A) : (b = true → B) ∧ (b = false → A) := ⟨fun n => Bool.noConfusion (h.symm.trans n), fun _ => a⟩
theorem isSome {α : Type} {x : α} {B : Prop} {A : α → Prop} (a : A x) : ((some x = none) → B) ∧ (∀ y, some x = some y → A y) := ⟨nofun, fun _ h => Option.some.inj h ▸ a⟩
theorem isNone {α : Type} {A : Prop} {B : α → Prop} (a : A) : ((none = (none : Option α)) → A) ∧ (∀ y, none = some y → B y) := ⟨fun _ => a, nofun⟩
end Go.Eng
