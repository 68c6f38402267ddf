/- A part of the engine by which the functions are walked; it speaks of no program. -/
import Derived.Test.YtgplckfjbdnedaaDoorEngCore
namespace Go.Eng
open Go Go.RowKit

def plainOp : Op → Bool
  | .select .. | .go _ | .send .. | .recv .. => false
  | _ => true

theorem resolve_congr (ρ ρ' : Operand → Value) (c : Call) (t : TypeId) (h : ∀ x ∈ c.operands.toList, ρ x = ρ' x) : resolve ρ c t = resolve ρ' c t := by
  have ha : c.args.map ρ = c.args.map ρ' := by
    apply Array.map_congr_left
    intro x hx
    apply h
    simp only [Call.operands, Array.toList_append, List.mem_append]
    exact .inr (by simpa using hx)
  cases hc : c.callee with
  | value f =>
    have hf : ρ f = ρ' f := h f (by simp [Call.operands, hc])
    simp only [resolve, hc, ha, hf]
  | invoke r n =>
    have hf : ρ r = ρ' r := h r (by simp [Call.operands, hc])
    simp only [resolve, hc, ha, hf]
  | builtin b => simp only [resolve, hc, ha]

theorem execOp_congr (ρ ρ' : Operand → Value) (o : Oper) (hp : plainOp o.op = true) (h : ∀ x ∈ o.op.operands.toList, ρ x = ρ' x) : execOp ρ o = execOp ρ' o := by
  obtain ⟨dst, op, type, pos, after, guard⟩ := o
  cases op <;> simp only [plainOp, Bool.false_eq_true] at hp <;> simp only [Op.operands] at h <;> simp only [execOp]
  case build t parts =>
    have : (parts.map fun (i, x) => (i, ρ x)) = (parts.map fun (i, x) => (i, ρ' x)) := by
      apply Array.map_congr_left
      rintro ⟨i, x⟩ hx
      exact congrArg _ (h x (by simp; exact ⟨i, by simpa using hx⟩))
    rw [this]
  case buildSlice t n parts =>
    have : (parts.map fun (i, x) => (i, ρ x)) = (parts.map fun (i, x) => (i, ρ' x)) := by
      apply Array.map_congr_left
      rintro ⟨i, x⟩ hx
      exact congrArg _ (h x (by simp; exact ⟨i, by simpa using hx⟩))
    rw [this]
  case makeFunc fn a b =>
    have e1 : a.map ρ = a.map ρ' := Array.map_congr_left fun x hx => h x (by simp; exact .inl (by simpa using hx))
    have e2 : b.map ρ = b.map ρ' := Array.map_congr_left fun x hx => h x (by simp; exact .inr (by simpa using hx))
    rw [e1, e2]
  case makeMap t r => cases r with
    | none => rfl
    | some r => simp only [Option.map_some]; rw [h r (by simp)]
  case slice T x lo hi mx =>
    have e0 : ρ x = ρ' x := h x (by simp)
    have e1 : lo.map ρ = lo.map ρ' := by cases lo with | none => rfl | some y => simp only [Option.map_some]; rw [h y (by simp)]
    have e2 : hi.map ρ = hi.map ρ' := by cases hi with | none => rfl | some y => simp only [Option.map_some]; rw [h y (by simp)]
    have e3 : mx.map ρ = mx.map ρ' := by cases mx with | none => rfl | some y => simp only [Option.map_some]; rw [h y (by simp)]
    rw [e0, e1, e2, e3]
  case call c => rw [resolve_congr ρ ρ' c type h]
  case defer c => rw [resolve_congr ρ ρ' c type h]
  all_goals first
    | rfl
    | (rw [h _ (List.Mem.head _), h _ (List.Mem.tail _ (List.Mem.head _)), h _ (List.Mem.tail _ (List.Mem.tail _ (List.Mem.head _)))]; done)
    | (rw [h _ (List.Mem.head _), h _ (List.Mem.tail _ (List.Mem.head _))]; done)
    | (rw [h _ (List.Mem.head _)]; done)
end Go.Eng
