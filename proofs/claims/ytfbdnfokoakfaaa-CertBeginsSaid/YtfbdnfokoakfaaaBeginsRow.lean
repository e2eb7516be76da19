/- CertBegins, for its row. -/
import Derived.Test.YtfbdnfokoakfaaaBeginsLaw
import Derived.Test.YtfbdnfokoakfaaaCertRow
