/- A few digests, by the kernel. No program in sight. -/
import Derived.Test.YtohgkadbajmphaaShaP
namespace Go.Proofs.Ytohgkadbajmphaa.ShaP
theorem hex_nil : hex (digest []) = [101, 51, 98, 48, 99, 52, 52, 50, 57, 56, 102, 99, 49, 99, 49, 52, 57, 97, 102, 98, 102, 52, 99, 56, 57, 57, 54, 102, 98, 57, 50, 52, 50, 55, 97, 101, 52, 49, 101, 52, 54, 52, 57, 98, 57, 51, 52, 99, 97, 52, 57, 53, 57, 57, 49, 98, 55, 56, 53, 50, 98, 56, 53, 53] := by decide +kernel
theorem hex_abc : (hex (digest [97, 98, 99])).take 8 = [98, 97, 55, 56, 49, 54, 98, 102] := by decide +kernel
theorem read_abc : readD (hex (digest [97, 98, 99])) = digest [97, 98, 99] ∧ readE (hex (digest [97, 98, 99])) = 0 := by decide +kernel
theorem mac_fox : (hex (mac [107, 101, 121] [84, 104, 101, 32, 113, 117, 105, 99, 107, 32, 98, 114, 111, 119, 110, 32, 102, 111, 120, 32, 106, 117, 109, 112, 115, 32, 111, 118, 101, 114, 32, 116, 104, 101, 32, 108, 97, 122, 121, 32, 100, 111, 103])).take 8 = [102, 55, 98, 99, 56, 51, 102, 52] := by decide +kernel
end Go.Proofs.Ytohgkadbajmphaa.ShaP
