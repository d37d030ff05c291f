/- The laws of crc, over all that comes in. -/
import Derived.Test.YtihipphpfbnknaaCrcP
import Derived.Test.YtihipphpfbnknaaAm22
namespace Go.Proofs.Ytihipphpfbnknaa
open Am C

theorem CrcSums_all (us : List V) (h : Args [.str] us) : AC Try.prog 3 us Hp.none (fun r _ => r = .b true) := by
  obtain ⟨u, us', rfl, hu, rfl⟩ := h
  obtain ⟨x, hx, lx⟩ := isT_str hu
  injection hx with hx; subst hx
  exact CrcSums_ok x lx _
theorem CrcOpens_all (us : List V) (h : Args [.str] us) : AC Try.prog 5 us Hp.none (fun r _ => r = .b true) := by
  obtain ⟨u, us', rfl, hu, rfl⟩ := h
  obtain ⟨x, hx, lx⟩ := isT_str hu
  injection hx with hx; subst hx
  exact CrcOpens_ok x lx _
theorem CrcPieces_all (us : List V) (h : Args [.sl .str] us) : AC Try.prog 4 us Hp.none (fun r _ => r = .b true) := by
  obtain ⟨u, us', rfl, hu, rfl⟩ := h
  obtain ⟨l, hl, h1, h2⟩ := isT_sl (fun x : List UInt8 => [.s x]) (fun x => x.length ≤ 9223372036854775807) (fun vs h => isT_str h) hu
  injection hl with hl; subst hl
  exact CrcPieces_ok l h1 _
end Go.Proofs.Ytihipphpfbnknaa
