/- symMerge of pairs, of any size. -/
import Derived.Test.YtpdackbcnbhppaaQ12
namespace Go.Proofs.Ytpdackbcnbhppaa
open Go.RowKit

theorem sym_all : ∀ K, SymK K
  | 0 => fun _ _ _ _ _ _ _ _ _ _ _ hK h0 => by intros; omega
  | K + 1 => by
    intro w g n cap P L R S a m b hK hL hR ha hm hb hn hn2 hP hsL hsR
    by_cases h1 : L.length = 1
    · obtain ⟨x, rfl⟩ := List.length_eq_one_iff.1 h1
      exact sym_left ha hm hb hn hP hsR hn2
    · by_cases h2 : R.length = 1
      · obtain ⟨y, rfl⟩ := List.length_eq_one_iff.1 h2
        exact sym_right ha hm h1 hb hn hP hsL hn2
      · exact sym_gen (sym_all K) hK (by omega) (by omega) ha hm hb hn hn2 hP hsL hsR
end Go.Proofs.Ytpdackbcnbhppaa
