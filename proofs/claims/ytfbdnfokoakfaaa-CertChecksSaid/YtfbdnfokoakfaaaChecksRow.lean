/- CertChecks, for its row. -/
import Derived.Test.YtfbdnfokoakfaaaChecksLaw
import Derived.Test.YtfbdnfokoakfaaaCertRow
