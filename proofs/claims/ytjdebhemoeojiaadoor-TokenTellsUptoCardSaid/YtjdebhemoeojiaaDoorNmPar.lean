/-
  names.Parent and names.Split, by their contracts.
-/
import Derived.Test.YtjdebhemoeojiaaDoorNmPath
import Derived.ShutString
namespace Go.Proofs.YtjdebhemoeojiaaDoor
open Go.RowKit

/-- what Split answers -/
def splitV (l : List UInt8) : Value := match atL l with
  | some (p, n) => if (pathB p && nameB n) = true then .tuple #[.string ⟨p.toArray⟩, .string ⟨n.toArray⟩, .int .i64 0] else .tuple #[.string ⟨#[]⟩, .string ⟨#[]⟩, .int .i64 31]
  | none => .tuple #[.string ⟨#[]⟩, .string ⟨#[]⟩, .int .i64 31]
theorem atL_len (l p n : List UInt8) (h : atL l = some (p, n)) : p.length + n.length < l.length := by
  induction l generalizing p with
  | nil => cases h
  | cons a r ih =>
    unfold atL at h
    split at h
    · simp only [Option.some.injEq, Prod.mk.injEq] at h
      obtain ⟨rfl, rfl⟩ := h
      simp
    · split at h
      · rename_i p' n' e
        simp only [Option.some.injEq, Prod.mk.injEq] at h
        obtain ⟨rfl, rfl⟩ := h
        have := ih _ e
        simp
        omega
      · cases h
end Go.Proofs.YtjdebhemoeojiaaDoor
